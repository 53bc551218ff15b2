import Derived.Test.YtmaolabjdmhinaaDoorVmC
import Derived.Lib.Repeat
namespace Go.Vm.FilG
structure S_FilterStep where
  f0 : Int
  f1 : Int
deriving DecidableEq

def cS_FilterStep (x : S_FilterStep) : List Dat := (cI .i64) x.f0 ++ (cI .i64) x.f1

structure S_filter_copies where
deriving DecidableEq

def cS_filter_copies (x : S_filter_copies) : List Dat := []

structure S_filter_rows where
  f0 : Int
deriving DecidableEq

def cS_filter_rows (x : S_filter_rows) : List Dat := (cI .i64) x.f0

inductive I_filter_coding where
  | nil
  | k_runs (x : S_filter_copies)
  | k_rows (x : S_filter_rows)
  | k_copies (x : S_filter_copies)
  | k_text (x : S_filter_copies)
deriving DecidableEq

def vI_filter_coding : I_filter_coding → Value
  | .nil => .nilIface
  | .k_runs x => .iface 111 (.agg ⟨[]⟩)
  | .k_rows x => .iface 113 (.agg ⟨[.int .i64 x.f0]⟩)
  | .k_copies x => .iface 114 (.agg ⟨[]⟩)
  | .k_text x => .iface 115 (.agg ⟨[]⟩)

def cI_filter_coding (x : I_filter_coding) : List Dat := [.v (vI_filter_coding x)]

def glob_filter_steps : List Int := [0, 498536548, 997073096, 651767980, 1994146192, 1802195444, 1303535960, 1342533948, 3988292384, 4027552580, 3604390888, 3412177804, 2607071920, 2262029012, 2685067896, 3183342108]

def filter_Check_L0 (F : Nat) (a0 : List S_FilterStep) : Nat → Int → Option (Out Unit Int)
  | 0, _ => none
  | n + 1, v1 =>
    bif (decide (v1 < (a0.length : Int))) then
      chk (0 ≤ v1 ∧ v1 < a0.length) <|
      lett ((bif (decide (((a0.getD v1.toNat (S_FilterStep.mk 0 0)).f0) < (1 : Int))) then true else (decide (((a0.getD v1.toNat (S_FilterStep.mk 0 0)).f0) > (4 : Int))))) fun z1 =>
      bif z1 then
        some (.esc (14 : Int))
      else
        lett ((bif (decide (((a0.getD v1.toNat (S_FilterStep.mk 0 0)).f1) < (1 : Int))) then true else (decide (((a0.getD v1.toNat (S_FilterStep.mk 0 0)).f1) > (1024 : Int))))) fun z2 =>
        bif (bif (((a0.getD v1.toNat (S_FilterStep.mk 0 0)).f0) == (2 : Int)) then z2 else false) then
          some (.esc (3 : Int))
        else
          lett ((bif (((a0.getD v1.toNat (S_FilterStep.mk 0 0)).f0) != (2 : Int)) then (((a0.getD v1.toNat (S_FilterStep.mk 0 0)).f1) != (0 : Int)) else false)) fun z3 =>
          bif z3 then
            some (.esc (4 : Int))
          else
            filter_Check_L0 F a0 n (IntKind.i64.wrap (v1 + (1 : Int)))
    else
      some (.go ())

/-- printworks/filter.Check -/
def filter_Check (F : Nat) (a0 : List S_FilterStep) : Option Int :=
  bif (decide ((a0.length : Int) > (4 : Int))) then
    some (2 : Int)
  else
    callE (filter_Check_L0 F a0 F (0 : Int))
      (fun e => some e) fun _ =>
    some (0 : Int)

/-- printworks/filter.codingOf -/
def filter_codingOf (F : Nat) (a0 : S_FilterStep) : Option I_filter_coding :=
  bif (a0.f0 == (1 : Int)) then
    some (I_filter_coding.k_runs (S_filter_copies.mk ))
  else
    bif (a0.f0 == (2 : Int)) then
      some (I_filter_coding.k_rows (S_filter_rows.mk a0.f1))
    else
      bif (a0.f0 == (3 : Int)) then
        some (I_filter_coding.k_copies (S_filter_copies.mk ))
      else
        some (I_filter_coding.k_text (S_filter_copies.mk ))

/-- (*strings.Builder).WriteString -/
def strings_Builder_WriteString (F : Nat) (a0 : List UInt8) (c1 : List UInt8) : Option (Int × Unit × (List UInt8)) :=
  chk (c1.length + a0.length ≤ 4294967296) <|
  some ((a0.length : Int), (), (c1 ++ a0))

/-- (*strings.Builder).Len -/
def strings_Builder_Len (F : Nat) (c0 : List UInt8) : Option (Int × (List UInt8)) :=
  some ((c0.length : Int), c0)

def filter_runs_decode_L0 (F : Nat) (a1 : List UInt8) : Nat → (List UInt8) → Int → Option (Out ((List UInt8)) ((List UInt8) × Int))
  | 0, _, _ => none
  | n + 1, v1, v2 =>
    bif (decide (v2 < (a1.length : Int))) then
      chk (0 ≤ v2 ∧ v2 < a1.length) <|
      callE (bif ((IntKind.i64.wrap ((a1.getD v2.toNat 0).toNat : Int)) == (128 : Int)) then
          some (.esc ([], (5 : Int)))
        else
          call (lett (IntKind.i64.wrap ((IntKind.i64.wrap (v2 + (1 : Int))) + (IntKind.i64.wrap ((a1.getD v2.toNat 0).toNat : Int)))) fun z1 =>
            lett ((bif (decide ((IntKind.i64.wrap ((a1.getD v2.toNat 0).toNat : Int)) < (128 : Int))) then (decide ((IntKind.i64.wrap (z1 + (1 : Int))) > (a1.length : Int))) else false)) fun z2 =>
            bif z2 then
              some z2
            else
              some ((IntKind.i64.wrap (v2 + (1 : Int))) == (a1.length : Int)))
            fun v3 =>
          bif v3 then
            some (.esc ([], (12 : Int)))
          else
            bif (decide ((IntKind.i64.wrap ((a1.getD v2.toNat 0).toNat : Int)) < (128 : Int))) then
              lett (IntKind.i64.wrap ((IntKind.i64.wrap (v2 + (1 : Int))) + (IntKind.i64.wrap ((a1.getD v2.toNat 0).toNat : Int)))) fun z3 =>
              chk (0 ≤ (IntKind.i64.wrap (v2 + (1 : Int))) ∧ (IntKind.i64.wrap (v2 + (1 : Int))) ≤ (IntKind.i64.wrap (z3 + (1 : Int))) ∧ (IntKind.i64.wrap (z3 + (1 : Int))) ≤ (a1.length : Int)) <|
              lett (((a1.drop (IntKind.i64.wrap (v2 + (1 : Int))).toNat).take ((IntKind.i64.wrap (z3 + (1 : Int))).toNat - (IntKind.i64.wrap (v2 + (1 : Int))).toNat))) fun z4 =>
              call (strings_Builder_WriteString F z4 v1) fun y1 =>
              lett (IntKind.i64.wrap ((IntKind.i64.wrap (v2 + (1 : Int))) + (IntKind.i64.wrap ((IntKind.i64.wrap ((a1.getD v2.toNat 0).toNat : Int)) + (1 : Int))))) fun z5 =>
              some (.go (y1.2.2, z5))
            else
              chk (0 ≤ (IntKind.i64.wrap (v2 + (1 : Int))) ∧ (IntKind.i64.wrap (v2 + (1 : Int))) ≤ (IntKind.i64.wrap ((IntKind.i64.wrap (v2 + (1 : Int))) + (1 : Int))) ∧ (IntKind.i64.wrap ((IntKind.i64.wrap (v2 + (1 : Int))) + (1 : Int))) ≤ (a1.length : Int)) <|
              lett (((a1.drop (IntKind.i64.wrap (v2 + (1 : Int))).toNat).take ((IntKind.i64.wrap ((IntKind.i64.wrap (v2 + (1 : Int))) + (1 : Int))).toNat - (IntKind.i64.wrap (v2 + (1 : Int))).toNat))) fun z6 =>
              chk (0 ≤ (IntKind.i64.wrap ((257 : Int) - (IntKind.i64.wrap ((a1.getD v2.toNat 0).toNat : Int)))) ∧ (IntKind.i64.wrap ((257 : Int) - (IntKind.i64.wrap ((a1.getD v2.toNat 0).toNat : Int)))) ≤ 9223372036854775807 ∧ z6.length * (IntKind.i64.wrap ((257 : Int) - (IntKind.i64.wrap ((a1.getD v2.toNat 0).toNat : Int)))).toNat ≤ 140737488355328) <|
              call (strings_Builder_WriteString F (Lib.repeatL z6 (IntKind.i64.wrap ((257 : Int) - (IntKind.i64.wrap ((a1.getD v2.toNat 0).toNat : Int)))).toNat) v1) fun y2 =>
              some (.go (y2.2.2, IntKind.i64.wrap ((IntKind.i64.wrap (v2 + (1 : Int))) + (1 : Int)))))
        (fun e => some (.esc e)) fun (v4, v5) =>
      call (strings_Builder_Len F v4) fun y3 =>
      bif (decide (y3.1 > (65536 : Int))) then
        some (.esc ([], (2 : Int)))
      else
        filter_runs_decode_L0 F a1 n y3.2 v5
    else
      some (.go v1)

/-- (printworks/filter.runs).decode -/
def filter_runs_decode (F : Nat) (a0 : S_filter_copies) (a1 : List UInt8) : Option ((List UInt8) × Int) :=
  callE (filter_runs_decode_L0 F a1 F [] (0 : Int))
    (fun e => some e) fun v6 =>
  chk (v6.length ≤ 9223372036854775807) <|
  some (v6, (0 : Int))

def filter_rows_decode_L0 (F : Nat) (a0 : S_filter_rows) : Nat → (List UInt8) → Int → Option ((List UInt8))
  | 0, _, _ => none
  | n + 1, v1, v2 =>
    bif (decide (v2 < (v1.length : Int))) then
      chk (0 ≤ v2 ∧ v2 < v1.length) <|
      chk (0 ≤ (IntKind.i64.wrap (v2 - a0.f0)) ∧ (IntKind.i64.wrap (v2 - a0.f0)) < v1.length) <|
      lett (IntKind.u8.wrap (((v1.getD v2.toNat 0).toNat : Int) + ((v1.getD (IntKind.i64.wrap (v2 - a0.f0)).toNat 0).toNat : Int))) fun z1 =>
      chk (0 ≤ v2 ∧ v2 < v1.length) <|
      chk (0 ≤ z1 ∧ z1 < 256) <|
      filter_rows_decode_L0 F a0 n (v1.set v2.toNat (UInt8.ofNat z1.toNat)) (IntKind.i64.wrap (v2 + (1 : Int)))
    else
      some v1

/-- (printworks/filter.rows).decode -/
def filter_rows_decode (F : Nat) (a0 : S_filter_rows) (a1 : List UInt8) : Option ((List UInt8) × Int) :=
  call (filter_rows_decode_L0 F a0 F a1 a0.f0)
    fun v3 =>
  some (v3, (0 : Int))

def filter_copies_decode_L2 (F : Nat) (a1 : List UInt8) (v1 : Int) (z1 : Int) : Nat → (List UInt8) → Int → Option ((List UInt8))
  | 0, _, _ => none
  | n + 1, v2, v3 =>
    lett ((decide (v3 < (IntKind.i64.wrap ((IntKind.i64.wrap ((a1.getD v1.toNat 0).toNat : Int)) - (125 : Int)))))) fun z2 =>
    bif z2 then
      chk (0 ≤ (IntKind.i64.wrap ((v2.length : Int) - z1)) ∧ (IntKind.i64.wrap ((v2.length : Int) - z1)) < v2.length) <|
      chk (0 ≤ ((v2.getD (IntKind.i64.wrap ((v2.length : Int) - z1)).toNat 0).toNat : Int) ∧ ((v2.getD (IntKind.i64.wrap ((v2.length : Int) - z1)).toNat 0).toNat : Int) < 256) <|
      chk (v2.length + ([(UInt8.ofNat ((v2.getD (IntKind.i64.wrap ((v2.length : Int) - z1)).toNat 0).toNat : Int).toNat)]).length ≤ 4294967296) <|
      lett ((v2 ++ ([(UInt8.ofNat ((v2.getD (IntKind.i64.wrap ((v2.length : Int) - z1)).toNat 0).toNat : Int).toNat)]))) fun l1 =>
      filter_copies_decode_L2 F a1 v1 z1 n l1 (IntKind.i64.wrap (v3 + (1 : Int)))
    else
      some v2

def filter_copies_decode_L0 (F : Nat) (a1 : List UInt8) : Nat → (List UInt8) → Int → Option (Out ((List UInt8)) ((List UInt8) × Int))
  | 0, _, _ => none
  | n + 1, v4, v1 =>
    bif (decide (v1 < (a1.length : Int))) then
      chk (0 ≤ v1 ∧ v1 < a1.length) <|
      callE (bif (decide ((IntKind.i64.wrap ((a1.getD v1.toNat 0).toNat : Int)) < (128 : Int))) then
          lett (IntKind.i64.wrap ((IntKind.i64.wrap (v1 + (1 : Int))) + (IntKind.i64.wrap ((a1.getD v1.toNat 0).toNat : Int)))) fun z3 =>
          bif (decide ((IntKind.i64.wrap (z3 + (1 : Int))) > (a1.length : Int))) then
            some (.esc ([], (12 : Int)))
          else
            lett (IntKind.i64.wrap ((IntKind.i64.wrap (v1 + (1 : Int))) + (IntKind.i64.wrap ((a1.getD v1.toNat 0).toNat : Int)))) fun z4 =>
            chk (0 ≤ (IntKind.i64.wrap (v1 + (1 : Int))) ∧ (IntKind.i64.wrap (v1 + (1 : Int))) ≤ (IntKind.i64.wrap (z4 + (1 : Int))) ∧ (IntKind.i64.wrap (z4 + (1 : Int))) ≤ (a1.length : Int)) <|
            lett (((a1.drop (IntKind.i64.wrap (v1 + (1 : Int))).toNat).take ((IntKind.i64.wrap (z4 + (1 : Int))).toNat - (IntKind.i64.wrap (v1 + (1 : Int))).toNat))) fun z5 =>
            chk (v4.length + z5.length ≤ 4294967296) <|
            lett (IntKind.i64.wrap ((IntKind.i64.wrap (v1 + (1 : Int))) + (IntKind.i64.wrap ((IntKind.i64.wrap ((a1.getD v1.toNat 0).toNat : Int)) + (1 : Int))))) fun z6 =>
            some (.go ((v4 ++ z5), z6))
        else
          lett ((decide ((IntKind.i64.wrap ((IntKind.i64.wrap (v1 + (1 : Int))) + (2 : Int))) > (a1.length : Int)))) fun z7 =>
          bif z7 then
            some (.esc ([], (12 : Int)))
          else
            chk (0 ≤ (IntKind.i64.wrap (v1 + (1 : Int))) ∧ (IntKind.i64.wrap (v1 + (1 : Int))) < a1.length) <|
            lett (IntKind.i64.wrap ((IntKind.i64.wrap ((a1.getD (IntKind.i64.wrap (v1 + (1 : Int))).toNat 0).toNat : Int)) * 2 ^ (min (8 : Int).toNat IntKind.i64.bits))) fun z8 =>
            chk (0 ≤ (IntKind.i64.wrap ((IntKind.i64.wrap (v1 + (1 : Int))) + (1 : Int))) ∧ (IntKind.i64.wrap ((IntKind.i64.wrap (v1 + (1 : Int))) + (1 : Int))) < a1.length) <|
            lett (((a1.getD (IntKind.i64.wrap ((IntKind.i64.wrap (v1 + (1 : Int))) + (1 : Int))).toNat 0).toNat : Int)) fun z9 =>
            lett (IntKind.i64.wrap ((BitVec.ofInt IntKind.i64.bits z8 ||| BitVec.ofInt IntKind.i64.bits (IntKind.i64.wrap z9)).toNat : Int)) fun z1 =>
            bif (bif (z1 == (0 : Int)) then true else (decide (z1 > (v4.length : Int)))) then
              some (.esc ([], (3 : Int)))
            else
              call (filter_copies_decode_L2 F a1 v1 z1 F v4 (0 : Int))
                fun v5 =>
              some (.go (v5, IntKind.i64.wrap ((IntKind.i64.wrap (v1 + (1 : Int))) + (2 : Int)))))
        (fun e => some (.esc e)) fun (v6, v7) =>
      bif (decide ((v6.length : Int) > (65536 : Int))) then
        some (.esc ([], (2 : Int)))
      else
        filter_copies_decode_L0 F a1 n v6 v7
    else
      some (.go v4)

/-- (printworks/filter.copies).decode -/
def filter_copies_decode (F : Nat) (a0 : S_filter_copies) (a1 : List UInt8) : Option ((List UInt8) × Int) :=
  callE (filter_copies_decode_L0 F a1 F [] (0 : Int))
    (fun e => some e) fun v8 =>
  some (v8, (0 : Int))

def filter_group_L0 (F : Nat) (a0 : List UInt8) : Nat → Int → Int → Option Int
  | 0, _, _ => none
  | n + 1, v1, v2 =>
    bif (decide (v2 < (4 : Int))) then
      call (bif (decide (v2 < (a0.length : Int))) then
          chk (0 ≤ v2 ∧ v2 < a0.length) <|
          lett (IntKind.u32.wrap ((BitVec.ofInt IntKind.u32.bits (IntKind.u32.wrap (v1 * 2 ^ (min (8 : Int).toNat IntKind.u32.bits))) ||| BitVec.ofInt IntKind.u32.bits (IntKind.u32.wrap ((a0.getD v2.toNat 0).toNat : Int))).toNat : Int)) fun z1 =>
          some z1
        else
          some (IntKind.u32.wrap (v1 * 2 ^ (min (8 : Int).toNat IntKind.u32.bits))))
        fun v3 =>
      filter_group_L0 F a0 n v3 (IntKind.i64.wrap (v2 + (1 : Int)))
    else
      some v1

def filter_group_L2 (F : Nat)  : Nat → Int → (List UInt8) → Int → Option ((List UInt8))
  | 0, _, _, _ => none
  | n + 1, v4, v5, v6 =>
    bif (decide (v6 ≥ (0 : Int))) then
      chk ((0 ≤ v6 ∧ v6 < 5) ∧ v6 < v5.length) <|
      chk (0 ≤ (IntKind.u8.wrap ((33 : Int) + (IntKind.u8.wrap (v4.tmod (85 : Int))))) ∧ (IntKind.u8.wrap ((33 : Int) + (IntKind.u8.wrap (v4.tmod (85 : Int))))) < 256) <|
      filter_group_L2 F n (IntKind.u32.wrap (v4.tdiv (85 : Int))) (v5.set v6.toNat (UInt8.ofNat (IntKind.u8.wrap ((33 : Int) + (IntKind.u8.wrap (v4.tmod (85 : Int))))).toNat)) (IntKind.i64.wrap (v6 - (1 : Int)))
    else
      some v5

/-- printworks/filter.group -/
def filter_group (F : Nat) (a0 : List UInt8) : Option ((List UInt8)) :=
  call (filter_group_L0 F a0 F (0 : Int) (0 : Int))
    fun v7 =>
  bif (bif (v7 == (0 : Int)) then ((a0.length : Int) == (4 : Int)) else false) then
    some ([122] : List UInt8)
  else
    call (filter_group_L2 F F v7 (List.replicate 5 0) (4 : Int))
      fun v8 =>
    chk ((0 ≤ (0 : Int) ∧ (0 : Int) ≤ (IntKind.i64.wrap ((a0.length : Int) + (1 : Int))) ∧ (IntKind.i64.wrap ((a0.length : Int) + (1 : Int))) ≤ ((5 : Nat) : Int)) ∧ v8.length = 5) <|
    lett (((v8.drop (0 : Int).toNat).take ((IntKind.i64.wrap ((a0.length : Int) + (1 : Int))).toNat - (0 : Int).toNat))) fun z2 =>
    some z2

def filter_ungroup_L0 (F : Nat) (a0 : List UInt8) : Nat → Int → Int → Option (Out Int ((List UInt8) × Int))
  | 0, _, _ => none
  | n + 1, v1, v2 =>
    bif (decide (v2 < (5 : Int))) then
      callE (bif (decide (v2 < (a0.length : Int))) then
          chk (0 ≤ v2 ∧ v2 < a0.length) <|
          chk ((((decide (((a0.getD v2.toNat 0).toNat : Int) < (33 : Int))) == false) && true) = true → 0 ≤ v2 ∧ v2 < a0.length) <|
          lett ((bif (decide (((a0.getD v2.toNat 0).toNat : Int) < (33 : Int))) then true else (decide (((a0.getD v2.toNat 0).toNat : Int) > (117 : Int))))) fun z1 =>
          bif z1 then
            some (.esc ([], (5 : Int)))
          else
            chk (0 ≤ v2 ∧ v2 < a0.length) <|
            some (.go (IntKind.u64.wrap (IntKind.u8.wrap (((a0.getD v2.toNat 0).toNat : Int) - (33 : Int)))))
        else
          some (.go (84 : Int)))
        (fun e => some (.esc e)) fun v3 =>
      filter_ungroup_L0 F a0 n (IntKind.u64.wrap ((IntKind.u64.wrap (v1 * (85 : Int))) + v3)) (IntKind.i64.wrap (v2 + (1 : Int)))
    else
      some (.go v1)

/-- printworks/filter.ungroup -/
def filter_ungroup (F : Nat) (a0 : List UInt8) : Option ((List UInt8) × Int) :=
  callE (filter_ungroup_L0 F a0 F (0 : Int) (0 : Int))
    (fun e => some e) fun v4 =>
  bif ((a0.length : Int) == (1 : Int)) then
    some ([], (12 : Int))
  else
    bif ((v4.fdiv (2 ^ (min (32 : Int).toNat IntKind.u64.bits))) != (0 : Int)) then
      some ([], (3 : Int))
    else
      chk (0 ≤ (IntKind.u8.wrap (v4.fdiv (2 ^ (min (24 : Int).toNat IntKind.u64.bits)))) ∧ (IntKind.u8.wrap (v4.fdiv (2 ^ (min (24 : Int).toNat IntKind.u64.bits)))) < 256) <|
      chk (0 ≤ (IntKind.u8.wrap (v4.fdiv (2 ^ (min (16 : Int).toNat IntKind.u64.bits)))) ∧ (IntKind.u8.wrap (v4.fdiv (2 ^ (min (16 : Int).toNat IntKind.u64.bits)))) < 256) <|
      chk (0 ≤ (IntKind.u8.wrap (v4.fdiv (2 ^ (min (8 : Int).toNat IntKind.u64.bits)))) ∧ (IntKind.u8.wrap (v4.fdiv (2 ^ (min (8 : Int).toNat IntKind.u64.bits)))) < 256) <|
      chk (0 ≤ (IntKind.u8.wrap v4) ∧ (IntKind.u8.wrap v4) < 256) <|
      chk (0 ≤ (IntKind.i64.wrap ((a0.length : Int) - (1 : Int))) ∧ (IntKind.i64.wrap ((a0.length : Int) - (1 : Int))) ≤ (([(UInt8.ofNat (IntKind.u8.wrap (v4.fdiv (2 ^ (min (24 : Int).toNat IntKind.u64.bits)))).toNat), (UInt8.ofNat (IntKind.u8.wrap (v4.fdiv (2 ^ (min (16 : Int).toNat IntKind.u64.bits)))).toNat), (UInt8.ofNat (IntKind.u8.wrap (v4.fdiv (2 ^ (min (8 : Int).toNat IntKind.u64.bits)))).toNat), (UInt8.ofNat (IntKind.u8.wrap v4).toNat)]).length : Int)) <|
      lett ((([(UInt8.ofNat (IntKind.u8.wrap (v4.fdiv (2 ^ (min (24 : Int).toNat IntKind.u64.bits)))).toNat), (UInt8.ofNat (IntKind.u8.wrap (v4.fdiv (2 ^ (min (16 : Int).toNat IntKind.u64.bits)))).toNat), (UInt8.ofNat (IntKind.u8.wrap (v4.fdiv (2 ^ (min (8 : Int).toNat IntKind.u64.bits)))).toNat), (UInt8.ofNat (IntKind.u8.wrap v4).toNat)]).take (IntKind.i64.wrap ((a0.length : Int) - (1 : Int))).toNat)) fun z2 =>
      call (filter_group F z2) fun y1 =>
      bif (!(y1 == a0)) then
        some ([], (4 : Int))
      else
        some (z2, (0 : Int))

def filter_text_decode_L0 (F : Nat)  : Nat → (List UInt8) → (List UInt8) → Option (Out ((List UInt8)) ((List UInt8) × Int))
  | 0, _, _ => none
  | n + 1, v1, v2 =>
    bif (!(v1 == [])) then
      callE (chk (0 ≤ (0 : Int) ∧ (0 : Int) < v1.length) <|
        bif (((v1.getD (0 : Int).toNat 0).toNat : Int) == (122 : Int)) then
          call (strings_Builder_WriteString F ([0, 0, 0, 0] : List UInt8) v2) fun y1 =>
          chk (0 ≤ (1 : Int) ∧ (1 : Int) ≤ (v1.length : Int) ∧ (v1.length : Int) ≤ (v1.length : Int)) <|
          some (.go (((v1.drop (1 : Int).toNat).take ((v1.length : Int).toNat - (1 : Int).toNat)), y1.2.2))
        else
          chk (0 ≤ (0 : Int) ∧ (0 : Int) ≤ (if (5 : Int) < (v1.length : Int) then (5 : Int) else (v1.length : Int)) ∧ (if (5 : Int) < (v1.length : Int) then (5 : Int) else (v1.length : Int)) ≤ (v1.length : Int)) <|
          lett (((v1.drop (0 : Int).toNat).take ((if (5 : Int) < (v1.length : Int) then (5 : Int) else (v1.length : Int)).toNat - (0 : Int).toNat))) fun z1 =>
          call (filter_ungroup F z1) fun y2 =>
          bif (y2.2 != (0 : Int)) then
            some (.esc ([], y2.2))
          else
            call (strings_Builder_WriteString F y2.1 v2) fun y3 =>
            chk (0 ≤ (if (5 : Int) < (v1.length : Int) then (5 : Int) else (v1.length : Int)) ∧ (if (5 : Int) < (v1.length : Int) then (5 : Int) else (v1.length : Int)) ≤ (v1.length : Int) ∧ (v1.length : Int) ≤ (v1.length : Int)) <|
            lett (((v1.drop (if (5 : Int) < (v1.length : Int) then (5 : Int) else (v1.length : Int)).toNat).take ((v1.length : Int).toNat - (if (5 : Int) < (v1.length : Int) then (5 : Int) else (v1.length : Int)).toNat))) fun z2 =>
            some (.go (z2, y3.2.2)))
        (fun e => some (.esc e)) fun (v3, v4) =>
      call (strings_Builder_Len F v4) fun y4 =>
      bif (decide (y4.1 > (65536 : Int))) then
        some (.esc ([], (2 : Int)))
      else
        filter_text_decode_L0 F n v3 y4.2
    else
      some (.go v2)

/-- (printworks/filter.text).decode -/
def filter_text_decode (F : Nat) (a0 : S_filter_copies) (a1 : List UInt8) : Option ((List UInt8) × Int) :=
  callE (filter_text_decode_L0 F F a1 [])
    (fun e => some e) fun v5 =>
  chk (v5.length ≤ 9223372036854775807) <|
  some (v5, (0 : Int))

/-- the method printworks/filter.decode -/
def I_filter_coding_decode (F : Nat) (x : I_filter_coding) (a1 : List UInt8) : Option ((List UInt8) × Int) :=
  match x with
  | .nil => none
  | .k_runs x => filter_runs_decode F x a1
  | .k_rows x => filter_rows_decode F x a1
  | .k_copies x => filter_copies_decode F x a1
  | .k_text x => filter_text_decode F x a1

/-- strings.Clone -/
def strings_Clone (F : Nat) (a0 : List UInt8) : Option ((List UInt8)) :=
  chk (a0.length ≤ 281474976710656) <|
  some a0

def filter_Decode_L0 (F : Nat) (a0 : List S_FilterStep) : Nat → (List UInt8) → Int → Option (Out ((List UInt8)) ((List UInt8) × Int))
  | 0, _, _ => none
  | n + 1, v1, v2 =>
    bif (decide (v2 ≥ (0 : Int))) then
      chk (0 ≤ v2 ∧ v2 < a0.length) <|
      call (filter_codingOf F (a0.getD v2.toNat (S_FilterStep.mk 0 0))) fun y1 =>
      call (I_filter_coding_decode F y1 v1) fun y2 =>
      bif (y2.2 != (0 : Int)) then
        some (.esc ([], y2.2))
      else
        filter_Decode_L0 F a0 n y2.1 (IntKind.i64.wrap (v2 - (1 : Int)))
    else
      some (.go v1)

/-- printworks/filter.Decode -/
def filter_Decode (F : Nat) (a0 : List S_FilterStep) (a1 : List UInt8) : Option ((List UInt8) × Int) :=
  call (filter_Check F a0) fun y3 =>
  bif (y3 != (0 : Int)) then
    some ([], y3)
  else
    bif (decide ((a1.length : Int) > (65536 : Int))) then
      some ([], (2 : Int))
    else
      callE (filter_Decode_L0 F a0 F a1 (IntKind.i64.wrap ((a0.length : Int) - (1 : Int))))
        (fun e => some e) fun v3 =>
      bif (decide ((v3.length : Int) > (16384 : Int))) then
        some ([], (2 : Int))
      else
        call (strings_Clone F v3) fun y4 =>
        some (y4, (0 : Int))

def filter_Sum_L0 (F : Nat) (a0 : List UInt8) : Nat → Int → Int → Option Int
  | 0, _, _ => none
  | n + 1, v1, v2 =>
    bif (decide (v2 < (a0.length : Int))) then
      chk (0 ≤ v2 ∧ v2 < a0.length) <|
      lett (IntKind.u32.wrap ((BitVec.ofInt IntKind.u32.bits v1 ^^^ BitVec.ofInt IntKind.u32.bits (IntKind.u32.wrap ((a0.getD v2.toNat 0).toNat : Int))).toNat : Int)) fun z1 =>
      lett (IntKind.u32.wrap ((BitVec.ofInt IntKind.u32.bits z1 &&& BitVec.ofInt IntKind.u32.bits (15 : Int)).toNat : Int)) fun z2 =>
      chk (0 ≤ z2 ∧ z2 < 16) <|
      lett (IntKind.u32.wrap ((BitVec.ofInt IntKind.u32.bits (z1.fdiv (2 ^ (min (4 : Int).toNat IntKind.u32.bits))) ^^^ BitVec.ofInt IntKind.u32.bits (glob_filter_steps.getD z2.toNat 0)).toNat : Int)) fun z3 =>
      lett (IntKind.u32.wrap ((BitVec.ofInt IntKind.u32.bits z3 &&& BitVec.ofInt IntKind.u32.bits (15 : Int)).toNat : Int)) fun z4 =>
      chk (0 ≤ z4 ∧ z4 < 16) <|
      lett (IntKind.u32.wrap ((BitVec.ofInt IntKind.u32.bits (z3.fdiv (2 ^ (min (4 : Int).toNat IntKind.u32.bits))) ^^^ BitVec.ofInt IntKind.u32.bits (glob_filter_steps.getD z4.toNat 0)).toNat : Int)) fun z5 =>
      filter_Sum_L0 F a0 n z5 (IntKind.i64.wrap (v2 + (1 : Int)))
    else
      some v1

/-- printworks/filter.Sum -/
def filter_Sum (F : Nat) (a0 : List UInt8) : Option Int :=
  call (filter_Sum_L0 F a0 F (4294967295 : Int) (0 : Int))
    fun v3 =>
  lett (IntKind.u32.wrap (((BitVec.ofInt IntKind.u32.bits (4294967295)) ^^^ (BitVec.ofInt IntKind.u32.bits v3)).toNat : Int)) fun z6 =>
  some z6

/-- printworks/printworkslaw3.filterFact -/
def law3_filterFact (F : Nat)  : Option Bool :=
  call (filter_Decode F ([(S_FilterStep.mk (1 : Int) 0)]) ([254, 7] : List UInt8)) fun y1 =>
  call ((bif (((bif (y1.2 == (0 : Int)) then (y1.1 == ([7, 7, 7] : List UInt8)) else false) == true) && true) then filter_Sum F ([49, 50, 51, 52, 53, 54, 55, 56, 57] : List UInt8) else some 0)) fun y2 =>
  lett ((bif (bif (y1.2 == (0 : Int)) then (y1.1 == ([7, 7, 7] : List UInt8)) else false) then (y2 == (3421780262 : Int)) else false)) fun z1 =>
  some z1

def ref3_StepError_L0 (F : Nat) (a0 : List S_FilterStep) : Nat → Int → Option (Out Unit Int)
  | 0, _ => none
  | n + 1, v1 =>
    bif (decide (v1 < (a0.length : Int))) then
      chk (0 ≤ v1 ∧ v1 < a0.length) <|
      lett ((bif (decide (((a0.getD v1.toNat (S_FilterStep.mk 0 0)).f0) < (1 : Int))) then true else (decide (((a0.getD v1.toNat (S_FilterStep.mk 0 0)).f0) > (4 : Int))))) fun z1 =>
      bif z1 then
        some (.esc (14 : Int))
      else
        lett ((bif (decide (((a0.getD v1.toNat (S_FilterStep.mk 0 0)).f1) < (1 : Int))) then true else (decide (((a0.getD v1.toNat (S_FilterStep.mk 0 0)).f1) > (1024 : Int))))) fun z2 =>
        bif (bif (((a0.getD v1.toNat (S_FilterStep.mk 0 0)).f0) == (2 : Int)) then z2 else false) then
          some (.esc (3 : Int))
        else
          lett ((bif (((a0.getD v1.toNat (S_FilterStep.mk 0 0)).f0) != (2 : Int)) then (((a0.getD v1.toNat (S_FilterStep.mk 0 0)).f1) != (0 : Int)) else false)) fun z3 =>
          bif z3 then
            some (.esc (4 : Int))
          else
            ref3_StepError_L0 F a0 n (IntKind.i64.wrap (v1 + (1 : Int)))
    else
      some (.go ())

/-- printworks/printworksref3.StepError -/
def ref3_StepError (F : Nat) (a0 : List S_FilterStep) : Option Int :=
  bif (decide ((a0.length : Int) > (4 : Int))) then
    some (2 : Int)
  else
    callE (ref3_StepError_L0 F a0 F (0 : Int))
      (fun e => some e) fun _ =>
    some (0 : Int)

def ref3_unpiece_L5 (F : Nat) (v1 : List UInt8) (v2 : List UInt8) (z1 : Int) : Nat → (List UInt8) → Int → Option ((List UInt8))
  | 0, _, _ => none
  | n + 1, v3, v4 =>
    lett ((decide (v4 < (IntKind.i64.wrap ((IntKind.i64.wrap ((v1.getD (0 : Int).toNat 0).toNat : Int)) - (125 : Int)))))) fun z2 =>
    bif z2 then
      chk (0 ≤ (IntKind.i64.wrap ((IntKind.i64.wrap ((v2.length : Int) - z1)) + v4)) ∧ (IntKind.i64.wrap ((IntKind.i64.wrap ((v2.length : Int) - z1)) + v4)) < v3.length) <|
      lett (((v3.getD (IntKind.i64.wrap ((IntKind.i64.wrap ((v2.length : Int) - z1)) + v4)).toNat 0).toNat : Int)) fun z3 =>
      chk (0 ≤ z3 ∧ z3 < 256) <|
      chk (v3.length + ([(UInt8.ofNat z3.toNat)]).length ≤ 4294967296) <|
      ref3_unpiece_L5 F v1 v2 z1 n (v3 ++ ([(UInt8.ofNat z3.toNat)])) (IntKind.i64.wrap (v4 + (1 : Int)))
    else
      some v3

def ref3_unpiece_L3 (F : Nat) (v1 : List UInt8) (v5 : Int) : Nat → (List UInt8) → Int → Option ((List UInt8))
  | 0, _, _ => none
  | n + 1, v6, v7 =>
    lett ((decide (v7 < (IntKind.i64.wrap ((257 : Int) - (IntKind.i64.wrap ((v1.getD (0 : Int).toNat 0).toNat : Int))))))) fun z4 =>
    bif z4 then
      chk (0 ≤ (0 : Int) ∧ (0 : Int) < ((v1.drop (1 : Int).toNat).take ((IntKind.i64.wrap (v5 + (1 : Int))).toNat - (1 : Int).toNat)).length) <|
      lett (((((v1.drop (1 : Int).toNat).take ((IntKind.i64.wrap (v5 + (1 : Int))).toNat - (1 : Int).toNat)).getD (0 : Int).toNat 0).toNat : Int)) fun z5 =>
      chk (0 ≤ z5 ∧ z5 < 256) <|
      chk (v6.length + ([(UInt8.ofNat z5.toNat)]).length ≤ 4294967296) <|
      ref3_unpiece_L3 F v1 v5 n (v6 ++ ([(UInt8.ofNat z5.toNat)])) (IntKind.i64.wrap (v7 + (1 : Int)))
    else
      some v6

def ref3_unpiece_L0 (F : Nat) (a1 : Bool) : Nat → (List UInt8) → (List UInt8) → Option (Out ((List UInt8)) ((List UInt8) × Int))
  | 0, _, _ => none
  | n + 1, v1, v2 =>
    bif (!(v1 == [])) then
      chk (0 ≤ (0 : Int) ∧ (0 : Int) < v1.length) <|
      call (bif (decide ((IntKind.i64.wrap ((v1.getD (0 : Int).toNat 0).toNat : Int)) < (128 : Int))) then
          some (IntKind.i64.wrap ((IntKind.i64.wrap ((v1.getD (0 : Int).toNat 0).toNat : Int)) + (1 : Int)))
        else
          bif a1 then
            some (2 : Int)
          else
            some (1 : Int))
        fun v5 =>
      lett ((bif ((IntKind.i64.wrap ((v1.getD (0 : Int).toNat 0).toNat : Int)) == (128 : Int)) then (!a1) else false)) fun z6 =>
      bif z6 then
        some (.esc ([], (5 : Int)))
      else
        bif (decide ((v1.length : Int) < (IntKind.i64.wrap (v5 + (1 : Int))))) then
          some (.esc ([], (12 : Int)))
        else
          chk (0 ≤ (1 : Int) ∧ (1 : Int) ≤ (IntKind.i64.wrap (v5 + (1 : Int))) ∧ (IntKind.i64.wrap (v5 + (1 : Int))) ≤ (v1.length : Int)) <|
          chk (0 ≤ (IntKind.i64.wrap (v5 + (1 : Int))) ∧ (IntKind.i64.wrap (v5 + (1 : Int))) ≤ (v1.length : Int) ∧ (v1.length : Int) ≤ (v1.length : Int)) <|
          lett (((v1.drop (IntKind.i64.wrap (v5 + (1 : Int))).toNat).take ((v1.length : Int).toNat - (IntKind.i64.wrap (v5 + (1 : Int))).toNat))) fun z7 =>
          callE (bif (decide ((IntKind.i64.wrap ((v1.getD (0 : Int).toNat 0).toNat : Int)) < (128 : Int))) then
              chk (v2.length + ((v1.drop (1 : Int).toNat).take ((IntKind.i64.wrap (v5 + (1 : Int))).toNat - (1 : Int).toNat)).length ≤ 4294967296) <|
              lett ((v2 ++ ((v1.drop (1 : Int).toNat).take ((IntKind.i64.wrap (v5 + (1 : Int))).toNat - (1 : Int).toNat)))) fun l1 =>
              some (.go l1)
            else
              bif a1 then
                chk (0 ≤ (0 : Int) ∧ (0 : Int) < ((v1.drop (1 : Int).toNat).take ((IntKind.i64.wrap (v5 + (1 : Int))).toNat - (1 : Int).toNat)).length) <|
                lett (((((v1.drop (1 : Int).toNat).take ((IntKind.i64.wrap (v5 + (1 : Int))).toNat - (1 : Int).toNat)).getD (0 : Int).toNat 0).toNat : Int)) fun z8 =>
                chk (0 ≤ (1 : Int) ∧ (1 : Int) < ((v1.drop (1 : Int).toNat).take ((IntKind.i64.wrap (v5 + (1 : Int))).toNat - (1 : Int).toNat)).length) <|
                lett (((((v1.drop (1 : Int).toNat).take ((IntKind.i64.wrap (v5 + (1 : Int))).toNat - (1 : Int).toNat)).getD (1 : Int).toNat 0).toNat : Int)) fun z9 =>
                lett (IntKind.i64.wrap ((IntKind.i64.wrap ((IntKind.i64.wrap z8) * (256 : Int))) + (IntKind.i64.wrap z9))) fun z1 =>
                bif (bif (z1 == (0 : Int)) then true else (decide (z1 > (v2.length : Int)))) then
                  some (.esc ([], (3 : Int)))
                else
                  call (ref3_unpiece_L5 F v1 v2 z1 F v2 (0 : Int))
                    fun v8 =>
                  some (.go v8)
              else
                call (ref3_unpiece_L3 F v1 v5 F v2 (0 : Int))
                  fun v9 =>
                some (.go v9))
            (fun e => some (.esc e)) fun v10 =>
          bif (decide ((v10.length : Int) > (65536 : Int))) then
            some (.esc ([], (2 : Int)))
          else
            ref3_unpiece_L0 F a1 n z7 v10
    else
      some (.go v2)

/-- printworks/printworksref3.unpiece -/
def ref3_unpiece (F : Nat) (a0 : List UInt8) (a1 : Bool) : Option ((List UInt8) × Int) :=
  callE (ref3_unpiece_L0 F a1 F a0 [])
    (fun e => some e) fun v11 =>
  some (v11, (0 : Int))

def ref3_Lettered_L2 (F : Nat) (a0 : List UInt8) (v1 : Int) (z1 : Int) : Nat → Int → Int → Option Int
  | 0, _, _ => none
  | n + 1, v2, v3 =>
    bif (decide (v3 < (4 : Int))) then
      call (bif (decide (v3 < z1)) then
          chk (0 ≤ (IntKind.i64.wrap (v1 + v3)) ∧ (IntKind.i64.wrap (v1 + v3)) < a0.length) <|
          lett (IntKind.i64.wrap ((IntKind.i64.wrap (v2 * (256 : Int))) + (IntKind.i64.wrap ((a0.getD (IntKind.i64.wrap (v1 + v3)).toNat 0).toNat : Int)))) fun z2 =>
          some z2
        else
          some (IntKind.i64.wrap (v2 * (256 : Int))))
        fun v4 =>
      ref3_Lettered_L2 F a0 v1 z1 n v4 (IntKind.i64.wrap (v3 + (1 : Int)))
    else
      some v2

def ref3_Lettered_L4 (F : Nat) (z1 : Int) : Nat → (List UInt8) → Int → Int → Int → Option ((List UInt8))
  | 0, _, _, _, _ => none
  | n + 1, v5, v6, v7, v8 =>
    bif (decide (v8 < (IntKind.i64.wrap (z1 + (1 : Int))))) then
      chk (v7 ≠ 0) <|
      chk (0 ≤ (IntKind.u8.wrap (IntKind.i64.wrap ((33 : Int) + (IntKind.i64.wrap (v6.tdiv v7))))) ∧ (IntKind.u8.wrap (IntKind.i64.wrap ((33 : Int) + (IntKind.i64.wrap (v6.tdiv v7))))) < 256) <|
      chk (v5.length + ([(UInt8.ofNat (IntKind.u8.wrap (IntKind.i64.wrap ((33 : Int) + (IntKind.i64.wrap (v6.tdiv v7))))).toNat)]).length ≤ 4294967296) <|
      lett ((v5 ++ ([(UInt8.ofNat (IntKind.u8.wrap (IntKind.i64.wrap ((33 : Int) + (IntKind.i64.wrap (v6.tdiv v7))))).toNat)]))) fun l1 =>
      chk (v7 ≠ 0) <|
      ref3_Lettered_L4 F z1 n l1 (v6.tmod v7) (IntKind.i64.wrap (v7.tdiv (85 : Int))) (IntKind.i64.wrap (v8 + (1 : Int)))
    else
      some v5

def ref3_Lettered_L0 (F : Nat) (a0 : List UInt8) : Nat → (List UInt8) → Int → Option ((List UInt8))
  | 0, _, _ => none
  | n + 1, v9, v1 =>
    bif (decide (v1 < (a0.length : Int))) then
      call (lett ((if (IntKind.i64.wrap ((a0.length : Int) - v1)) < (4 : Int) then (IntKind.i64.wrap ((a0.length : Int) - v1)) else (4 : Int))) fun z1 =>
        call (ref3_Lettered_L2 F a0 v1 z1 F (0 : Int) (0 : Int))
          fun v10 =>
        bif (bif (v10 == (0 : Int)) then (z1 == (4 : Int)) else false) then
          chk (v9.length + ([(UInt8.ofNat (122 : Int).toNat)]).length ≤ 4294967296) <|
          some (v9 ++ ([(UInt8.ofNat (122 : Int).toNat)]))
        else
          call (ref3_Lettered_L4 F z1 F v9 v10 (52200625 : Int) (0 : Int))
            fun v11 =>
          some v11)
        fun v12 =>
      ref3_Lettered_L0 F a0 n v12 (IntKind.i64.wrap (v1 + (4 : Int)))
    else
      some v9

/-- printworks/printworksref3.Lettered -/
def ref3_Lettered (F : Nat) (a0 : List UInt8) : Option ((List UInt8)) :=
  call (ref3_Lettered_L0 F a0 F [] (0 : Int))
    fun v13 =>
  some v13

def ref3_unletter_L2 (F : Nat) (a0 : List UInt8) (v1 : Int) (z1 : Int) : Nat → Int → Int → Option (Out Int ((List UInt8) × Int))
  | 0, _, _ => none
  | n + 1, v2, v3 =>
    bif (decide (v3 < (5 : Int))) then
      call (bif (decide (v3 < (((a0.drop v1.toNat).take (z1.toNat - v1.toNat)).length : Int))) then
          chk (0 ≤ v3 ∧ v3 < ((a0.drop v1.toNat).take (z1.toNat - v1.toNat)).length) <|
          lett (IntKind.i64.wrap ((((a0.drop v1.toNat).take (z1.toNat - v1.toNat)).getD v3.toNat 0).toNat : Int)) fun z2 =>
          some (IntKind.i64.wrap (z2 - (33 : Int)))
        else
          some (84 : Int))
        fun v4 =>
      bif (bif (decide (v4 < (0 : Int))) then true else (decide (v4 > (84 : Int)))) then
        some (.esc ([], (5 : Int)))
      else
        ref3_unletter_L2 F a0 v1 z1 n (IntKind.i64.wrap ((IntKind.i64.wrap (v2 * (85 : Int))) + v4)) (IntKind.i64.wrap (v3 + (1 : Int)))
    else
      some (.go v2)

def ref3_unletter_L0 (F : Nat) (a0 : List UInt8) : Nat → (List UInt8) → Int → Option (Out ((List UInt8)) ((List UInt8) × Int))
  | 0, _, _ => none
  | n + 1, v5, v1 =>
    bif (decide (v1 < (a0.length : Int))) then
      callE (chk (0 ≤ v1 ∧ v1 < a0.length) <|
        bif (((a0.getD v1.toNat 0).toNat : Int) == (122 : Int)) then
          chk (v5.length + ([(UInt8.ofNat (0 : Int).toNat), (UInt8.ofNat (0 : Int).toNat), (UInt8.ofNat (0 : Int).toNat), (UInt8.ofNat (0 : Int).toNat)]).length ≤ 4294967296) <|
          lett ((v5 ++ ([(UInt8.ofNat (0 : Int).toNat), (UInt8.ofNat (0 : Int).toNat), (UInt8.ofNat (0 : Int).toNat), (UInt8.ofNat (0 : Int).toNat)]))) fun l1 =>
          some (.go (l1, IntKind.i64.wrap (v1 + (1 : Int))))
        else
          lett ((if (IntKind.i64.wrap (v1 + (5 : Int))) < (a0.length : Int) then (IntKind.i64.wrap (v1 + (5 : Int))) else (a0.length : Int))) fun z1 =>
          chk (0 ≤ v1 ∧ v1 ≤ z1 ∧ z1 ≤ (a0.length : Int)) <|
          callE (ref3_unletter_L2 F a0 v1 z1 F (0 : Int) (0 : Int))
            (fun e => some (.esc e)) fun v6 =>
          bif ((((a0.drop v1.toNat).take (z1.toNat - v1.toNat)).length : Int) == (1 : Int)) then
            some (.esc ([], (12 : Int)))
          else
            bif (decide (v6 ≥ (4294967296 : Int))) then
              some (.esc ([], (3 : Int)))
            else
              chk (0 ≤ (IntKind.u8.wrap (IntKind.i64.wrap (v6.tdiv (16777216 : Int)))) ∧ (IntKind.u8.wrap (IntKind.i64.wrap (v6.tdiv (16777216 : Int)))) < 256) <|
              chk (0 ≤ (IntKind.u8.wrap ((IntKind.i64.wrap (v6.tdiv (65536 : Int))).tmod (256 : Int))) ∧ (IntKind.u8.wrap ((IntKind.i64.wrap (v6.tdiv (65536 : Int))).tmod (256 : Int))) < 256) <|
              chk (0 ≤ (IntKind.u8.wrap ((IntKind.i64.wrap (v6.tdiv (256 : Int))).tmod (256 : Int))) ∧ (IntKind.u8.wrap ((IntKind.i64.wrap (v6.tdiv (256 : Int))).tmod (256 : Int))) < 256) <|
              chk (0 ≤ (IntKind.u8.wrap (v6.tmod (256 : Int))) ∧ (IntKind.u8.wrap (v6.tmod (256 : Int))) < 256) <|
              chk (0 ≤ (0 : Int) ∧ (0 : Int) ≤ (IntKind.i64.wrap ((((a0.drop v1.toNat).take (z1.toNat - v1.toNat)).length : Int) - (1 : Int))) ∧ (IntKind.i64.wrap ((((a0.drop v1.toNat).take (z1.toNat - v1.toNat)).length : Int) - (1 : Int))) ≤ (([(UInt8.ofNat (IntKind.u8.wrap (IntKind.i64.wrap (v6.tdiv (16777216 : Int)))).toNat), (UInt8.ofNat (IntKind.u8.wrap ((IntKind.i64.wrap (v6.tdiv (65536 : Int))).tmod (256 : Int))).toNat), (UInt8.ofNat (IntKind.u8.wrap ((IntKind.i64.wrap (v6.tdiv (256 : Int))).tmod (256 : Int))).toNat), (UInt8.ofNat (IntKind.u8.wrap (v6.tmod (256 : Int))).toNat)]).length : Int)) <|
              lett (((([(UInt8.ofNat (IntKind.u8.wrap (IntKind.i64.wrap (v6.tdiv (16777216 : Int)))).toNat), (UInt8.ofNat (IntKind.u8.wrap ((IntKind.i64.wrap (v6.tdiv (65536 : Int))).tmod (256 : Int))).toNat), (UInt8.ofNat (IntKind.u8.wrap ((IntKind.i64.wrap (v6.tdiv (256 : Int))).tmod (256 : Int))).toNat), (UInt8.ofNat (IntKind.u8.wrap (v6.tmod (256 : Int))).toNat)]).drop (0 : Int).toNat).take ((IntKind.i64.wrap ((((a0.drop v1.toNat).take (z1.toNat - v1.toNat)).length : Int) - (1 : Int))).toNat - (0 : Int).toNat))) fun z3 =>
              call (ref3_Lettered F z3) fun y1 =>
              bif (!(y1 == ((a0.drop v1.toNat).take (z1.toNat - v1.toNat)))) then
                some (.esc ([], (4 : Int)))
              else
                lett ([(UInt8.ofNat (IntKind.u8.wrap (IntKind.i64.wrap (v6.tdiv (16777216 : Int)))).toNat), (UInt8.ofNat (IntKind.u8.wrap ((IntKind.i64.wrap (v6.tdiv (65536 : Int))).tmod (256 : Int))).toNat), (UInt8.ofNat (IntKind.u8.wrap ((IntKind.i64.wrap (v6.tdiv (256 : Int))).tmod (256 : Int))).toNat), (UInt8.ofNat (IntKind.u8.wrap (v6.tmod (256 : Int))).toNat)]) fun z4 =>
                chk (0 ≤ (0 : Int) ∧ (0 : Int) ≤ (IntKind.i64.wrap ((((a0.drop v1.toNat).take (z1.toNat - v1.toNat)).length : Int) - (1 : Int))) ∧ (IntKind.i64.wrap ((((a0.drop v1.toNat).take (z1.toNat - v1.toNat)).length : Int) - (1 : Int))) ≤ (z4.length : Int)) <|
                lett (((z4.drop (0 : Int).toNat).take ((IntKind.i64.wrap ((((a0.drop v1.toNat).take (z1.toNat - v1.toNat)).length : Int) - (1 : Int))).toNat - (0 : Int).toNat))) fun z5 =>
                chk (v5.length + z5.length ≤ 4294967296) <|
                some (.go ((v5 ++ z5), IntKind.i64.wrap (v1 + (((a0.drop v1.toNat).take (z1.toNat - v1.toNat)).length : Int)))))
        (fun e => some (.esc e)) fun (v7, v8) =>
      bif (decide ((v7.length : Int) > (65536 : Int))) then
        some (.esc ([], (2 : Int)))
      else
        ref3_unletter_L0 F a0 n v7 v8
    else
      some (.go v5)

/-- printworks/printworksref3.unletter -/
def ref3_unletter (F : Nat) (a0 : List UInt8) : Option ((List UInt8) × Int) :=
  callE (ref3_unletter_L0 F a0 F [] (0 : Int))
    (fun e => some e) fun v9 =>
  some (v9, (0 : Int))

def ref3_Decoded_L3 (F : Nat) (a0 : List S_FilterStep) (v1 : List UInt8) (v2 : Int) : Nat → (List UInt8) → Int → Option ((List UInt8))
  | 0, _, _ => none
  | n + 1, v3, v4 =>
    bif (decide (v4 < (v1.length : Int))) then
      chk (0 ≤ v4 ∧ v4 < v1.length) <|
      call (lett ((a0.getD (IntKind.i64.wrap ((IntKind.i64.wrap ((a0.length : Int) - (1 : Int))) - v2)).toNat (S_FilterStep.mk 0 0)).f1) fun z1 =>
        bif (decide (v4 ≥ z1)) then
          lett ((a0.getD (IntKind.i64.wrap ((IntKind.i64.wrap ((a0.length : Int) - (1 : Int))) - v2)).toNat (S_FilterStep.mk 0 0)).f1) fun z2 =>
          chk (0 ≤ (IntKind.i64.wrap (v4 - z2)) ∧ (IntKind.i64.wrap (v4 - z2)) < v3.length) <|
          lett (IntKind.u8.wrap (((v1.getD v4.toNat 0).toNat : Int) + ((v3.getD (IntKind.i64.wrap (v4 - z2)).toNat 0).toNat : Int))) fun z3 =>
          some z3
        else
          some ((v1.getD v4.toNat 0).toNat : Int))
        fun v5 =>
      chk (0 ≤ v5 ∧ v5 < 256) <|
      chk (v3.length + ([(UInt8.ofNat v5.toNat)]).length ≤ 4294967296) <|
      ref3_Decoded_L3 F a0 v1 v2 n (v3 ++ ([(UInt8.ofNat v5.toNat)])) (IntKind.i64.wrap (v4 + (1 : Int)))
    else
      some v3

def ref3_Decoded_L0 (F : Nat) (a0 : List S_FilterStep) : Nat → (List UInt8) → Int → Option (Out ((List UInt8)) ((List UInt8) × Int))
  | 0, _, _ => none
  | n + 1, v1, v2 =>
    bif (decide (v2 < (a0.length : Int))) then
      chk (0 ≤ (IntKind.i64.wrap ((IntKind.i64.wrap ((a0.length : Int) - (1 : Int))) - v2)) ∧ (IntKind.i64.wrap ((IntKind.i64.wrap ((a0.length : Int) - (1 : Int))) - v2)) < a0.length) <|
      call (lett ((a0.getD (IntKind.i64.wrap ((IntKind.i64.wrap ((a0.length : Int) - (1 : Int))) - v2)).toNat (S_FilterStep.mk 0 0)).f0) fun z4 =>
        bif (z4 == (1 : Int)) then
          call (ref3_unpiece F v1 false) fun y1 =>
          some (y1.1, y1.2)
        else
          bif (z4 == (3 : Int)) then
            call (ref3_unpiece F v1 true) fun y2 =>
            some (y2.1, y2.2)
          else
            bif (z4 == (4 : Int)) then
              call (ref3_unletter F v1) fun y3 =>
              some (y3.1, y3.2)
            else
              call (ref3_Decoded_L3 F a0 v1 v2 F [] (0 : Int))
                fun v6 =>
              some (v6, (0 : Int)))
        fun (v7, v8) =>
      bif (v8 != (0 : Int)) then
        some (.esc ([], v8))
      else
        ref3_Decoded_L0 F a0 n v7 (IntKind.i64.wrap (v2 + (1 : Int)))
    else
      some (.go v1)

/-- printworks/printworksref3.Decoded -/
def ref3_Decoded (F : Nat) (a0 : List S_FilterStep) (a1 : List UInt8) : Option ((List UInt8) × Int) :=
  call (ref3_StepError F a0) fun y4 =>
  bif (y4 != (0 : Int)) then
    some ([], y4)
  else
    bif (decide ((a1.length : Int) > (65536 : Int))) then
      some ([], (2 : Int))
    else
      callE (ref3_Decoded_L0 F a0 F a1 (0 : Int))
        (fun e => some e) fun v9 =>
      bif (decide ((v9.length : Int) > (16384 : Int))) then
        some ([], (2 : Int))
      else
        some (v9, (0 : Int))

/-- printworks/printworkslaw3.FilterDecodeMatchesReference -/
def law3_FilterDecodeMatchesReference (F : Nat) (a0 : List S_FilterStep) (a1 : List UInt8) : Option Bool :=
  call (law3_filterFact F) fun y1 =>
  bif (!y1) then
    some false
  else
    call (filter_Decode F a0 a1) fun y2 =>
    call (ref3_Decoded F a0 a1) fun y3 =>
    call ((bif (((bif (y2.2 == y3.2) then (y2.1 == y3.1) else false) == true) && true) then filter_Check F a0 else some 0)) fun y4 =>
    call ((bif (((bif (y2.2 == y3.2) then (y2.1 == y3.1) else false) == true) && true) then ref3_StepError F a0 else some 0)) fun y5 =>
    some (bif (bif (y2.2 == y3.2) then (y2.1 == y3.1) else false) then (y4 == y5) else false)

/-- printworks/printworksref3.Stepped -/
def ref3_Stepped (F : Nat) (a0 : Int) (a1 : Bool) : Option Int :=
  bif (!(((a0.tmod (2 : Int)) == (1 : Int)) == a1)) then
    lett (IntKind.u32.wrap ((BitVec.ofInt IntKind.u32.bits (IntKind.u32.wrap ((IntKind.u32.wrap (a0.tdiv (2 : Int))) + (0 : Int))) ^^^ BitVec.ofInt IntKind.u32.bits (3988292384 : Int)).toNat : Int)) fun z1 =>
    some z1
  else
    some (IntKind.u32.wrap ((IntKind.u32.wrap (a0.tdiv (2 : Int))) + (0 : Int)))

def ref3_Check32_L2 (F : Nat) (a0 : List UInt8) (v1 : Int) : Nat → Int → Int → Option Int
  | 0, _, _ => none
  | n + 1, v2, v3 =>
    bif (decide (v3 < (8 : Int))) then
      chk (0 ≤ v1 ∧ v1 < a0.length) <|
      chk (0 ≤ v3) <|
      lett (IntKind.u8.wrap ((BitVec.ofInt IntKind.u8.bits (((a0.getD v1.toNat 0).toNat : Int).fdiv (2 ^ (min v3.toNat IntKind.u8.bits))) &&& BitVec.ofInt IntKind.u8.bits (1 : Int)).toNat : Int)) fun z1 =>
      call (ref3_Stepped F v2 (z1 == (1 : Int))) fun y1 =>
      ref3_Check32_L2 F a0 v1 n y1 (IntKind.i64.wrap (v3 + (1 : Int)))
    else
      some v2

def ref3_Check32_L0 (F : Nat) (a0 : List UInt8) : Nat → Int → Int → Option Int
  | 0, _, _ => none
  | n + 1, v4, v1 =>
    bif (decide (v1 < (a0.length : Int))) then
      call (ref3_Check32_L2 F a0 v1 F v4 (0 : Int))
        fun v5 =>
      ref3_Check32_L0 F a0 n v5 (IntKind.i64.wrap (v1 + (1 : Int)))
    else
      some v4

/-- printworks/printworksref3.Check32 -/
def ref3_Check32 (F : Nat) (a0 : List UInt8) : Option Int :=
  call (ref3_Check32_L0 F a0 F (4294967295 : Int) (0 : Int))
    fun v6 =>
  lett (IntKind.u32.wrap ((BitVec.ofInt IntKind.u32.bits v6 ^^^ BitVec.ofInt IntKind.u32.bits (4294967295 : Int)).toNat : Int)) fun z2 =>
  some z2

def filter_Hex_L0 (F : Nat) (a0 : Int) : Nat → (List UInt8) → Int → Option ((List UInt8))
  | 0, _, _ => none
  | n + 1, v1, v2 =>
    bif (decide (v2 < (8 : Int))) then
      chk (0 ≤ (IntKind.i64.wrap ((28 : Int) - (IntKind.i64.wrap ((4 : Int) * v2))))) <|
      lett ((a0.fdiv (2 ^ (min (IntKind.i64.wrap ((28 : Int) - (IntKind.i64.wrap ((4 : Int) * v2)))).toNat IntKind.u32.bits)))) fun z1 =>
      lett (IntKind.u32.wrap ((BitVec.ofInt IntKind.u32.bits z1 &&& BitVec.ofInt IntKind.u32.bits (15 : Int)).toNat : Int)) fun z2 =>
      chk (0 ≤ z2 ∧ z2 < ([48, 49, 50, 51, 52, 53, 54, 55, 56, 57, 97, 98, 99, 100, 101, 102] : List UInt8).length) <|
      lett (((([48, 49, 50, 51, 52, 53, 54, 55, 56, 57, 97, 98, 99, 100, 101, 102] : List UInt8).getD z2.toNat 0).toNat : Int)) fun z3 =>
      chk ((0 ≤ v2 ∧ v2 < 8) ∧ v2 < v1.length) <|
      chk (0 ≤ z3 ∧ z3 < 256) <|
      filter_Hex_L0 F a0 n (v1.set v2.toNat (UInt8.ofNat z3.toNat)) (IntKind.i64.wrap (v2 + (1 : Int)))
    else
      some v1

/-- printworks/filter.Hex -/
def filter_Hex (F : Nat) (a0 : Int) : Option ((List UInt8)) :=
  call (filter_Hex_L0 F a0 F (List.replicate 8 0) (0 : Int))
    fun v3 =>
  chk ((0 ≤ (0 : Int) ∧ (0 : Int) ≤ ((8 : Nat) : Int) ∧ ((8 : Nat) : Int) ≤ ((8 : Nat) : Int)) ∧ v3.length = 8) <|
  some ((v3.drop (0 : Int).toNat).take (((8 : Nat) : Int).toNat - (0 : Int).toNat))

def ref3_Hexed_L0 (F : Nat)  : Nat → Int → (List UInt8) → Int → Option ((List UInt8))
  | 0, _, _, _ => none
  | n + 1, v1, v2, v3 =>
    bif (decide (v3 < (8 : Int))) then
      chk (0 ≤ (v1.tmod (16 : Int)) ∧ (v1.tmod (16 : Int)) ≤ (IntKind.u32.wrap ((v1.tmod (16 : Int)) + (1 : Int))) ∧ (IntKind.u32.wrap ((v1.tmod (16 : Int)) + (1 : Int))) ≤ (([48, 49, 50, 51, 52, 53, 54, 55, 56, 57, 97, 98, 99, 100, 101, 102] : List UInt8).length : Int)) <|
      lett (((([48, 49, 50, 51, 52, 53, 54, 55, 56, 57, 97, 98, 99, 100, 101, 102] : List UInt8).drop (v1.tmod (16 : Int)).toNat).take ((IntKind.u32.wrap ((v1.tmod (16 : Int)) + (1 : Int))).toNat - (v1.tmod (16 : Int)).toNat))) fun z1 =>
      chk (z1.length + v2.length ≤ 9223372036854775807) <|
      ref3_Hexed_L0 F n (IntKind.u32.wrap (v1.tdiv (16 : Int))) (z1 ++ v2) (IntKind.i64.wrap (v3 + (1 : Int)))
    else
      some v2

/-- printworks/printworksref3.Hexed -/
def ref3_Hexed (F : Nat) (a0 : Int) : Option ((List UInt8)) :=
  call (ref3_Hexed_L0 F F a0 [] (0 : Int))
    fun v4 =>
  some v4

/-- printworks/printworkslaw3.FilterSumMatchesReference -/
def law3_FilterSumMatchesReference (F : Nat) (a0 : List UInt8) : Option Bool :=
  call (law3_filterFact F) fun y1 =>
  bif (!y1) then
    some false
  else
    call (ref3_Check32 F a0) fun y2 =>
    call (filter_Sum F a0) fun y3 =>
    call ((bif (((y3 == y2) == true) && true) then filter_Hex F y2 else some [])) fun y4 =>
    call ((bif (((y3 == y2) == true) && true) then ref3_Hexed F y2 else some [])) fun y5 =>
    some (bif (y3 == y2) then (y4 == y5) else false)

def filter_product_L0 (F : Nat) (a0 : Int) : Nat → Int → Int → Int → Option Int
  | 0, _, _, _ => none
  | n + 1, v1, v2, v3 =>
    bif (v3 != (0 : Int)) then
      call (lett (IntKind.u32.wrap ((BitVec.ofInt IntKind.u32.bits a0 &&& BitVec.ofInt IntKind.u32.bits v3).toNat : Int)) fun z1 =>
        bif (z1 != (0 : Int)) then
          lett (IntKind.u32.wrap ((BitVec.ofInt IntKind.u32.bits v2 ^^^ BitVec.ofInt IntKind.u32.bits v1).toNat : Int)) fun z2 =>
          some z2
        else
          some v2)
        fun v4 =>
      lett (IntKind.u32.wrap ((BitVec.ofInt IntKind.u32.bits v1 &&& BitVec.ofInt IntKind.u32.bits (1 : Int)).toNat : Int)) fun z3 =>
      lett (IntKind.u32.wrap ((BitVec.ofInt IntKind.u32.bits (IntKind.u32.wrap (0 - z3)) &&& BitVec.ofInt IntKind.u32.bits (3988292384 : Int)).toNat : Int)) fun z4 =>
      lett (IntKind.u32.wrap ((BitVec.ofInt IntKind.u32.bits (v1.fdiv (2 ^ (min (1 : Int).toNat IntKind.u32.bits))) ^^^ BitVec.ofInt IntKind.u32.bits z4).toNat : Int)) fun z5 =>
      filter_product_L0 F a0 n z5 v4 (v3.fdiv (2 ^ (min (1 : Int).toNat IntKind.u32.bits)))
    else
      some v2

/-- printworks/filter.product -/
def filter_product (F : Nat) (a0 : Int) (a1 : Int) : Option Int :=
  call (filter_product_L0 F a0 F a1 (0 : Int) (2147483648 : Int))
    fun v5 =>
  some v5

def filter_Join_L0 (F : Nat)  : Nat → Int → Int → Int → Option Int
  | 0, _, _, _ => none
  | n + 1, v1, v2, v3 =>
    bif (decide (v2 > (0 : Int))) then
      call (lett (IntKind.i64.wrap ((BitVec.ofInt IntKind.i64.bits v2 &&& BitVec.ofInt IntKind.i64.bits (1 : Int)).toNat : Int)) fun z1 =>
        bif (z1 != (0 : Int)) then
          call (filter_product F v1 v3) fun y1 =>
          some y1
        else
          some v1)
        fun v4 =>
      call (filter_product F v3 v3) fun y2 =>
      filter_Join_L0 F n v4 (v2.fdiv (2 ^ (min (1 : Int).toNat IntKind.i64.bits))) y2
    else
      some v1

/-- printworks/filter.Join -/
def filter_Join (F : Nat) (a0 : Int) (a1 : Int) (a2 : Int) : Option Int :=
  call (filter_Join_L0 F F a0 a2 (8388608 : Int))
    fun v5 =>
  lett (IntKind.u32.wrap ((BitVec.ofInt IntKind.u32.bits v5 ^^^ BitVec.ofInt IntKind.u32.bits a1).toNat : Int)) fun z2 =>
  some z2

def ref3_Joined_L0 (F : Nat) (a2 : Int) : Nat → Int → Int → Option Int
  | 0, _, _ => none
  | n + 1, v1, v2 =>
    bif (decide (v2 < (IntKind.i64.wrap ((8 : Int) * a2)))) then
      call (ref3_Stepped F v1 false) fun y1 =>
      ref3_Joined_L0 F a2 n y1 (IntKind.i64.wrap (v2 + (1 : Int)))
    else
      some v1

/-- printworks/printworksref3.Joined -/
def ref3_Joined (F : Nat) (a0 : Int) (a1 : Int) (a2 : Int) : Option Int :=
  call (ref3_Joined_L0 F a2 F a0 (0 : Int))
    fun v3 =>
  lett (IntKind.u32.wrap ((BitVec.ofInt IntKind.u32.bits v3 ^^^ BitVec.ofInt IntKind.u32.bits a1).toNat : Int)) fun z1 =>
  some z1

/-- printworks/printworkslaw3.FilterJoinMatchesReference -/
def law3_FilterJoinMatchesReference (F : Nat) (a0 : Int) (a1 : Int) (a2 : Int) : Option Bool :=
  call (law3_filterFact F) fun y1 =>
  call ((bif (((!y1) == false) && true) then filter_Sum F ([49, 50, 51, 52, 53] : List UInt8) else some 0)) fun y2 =>
  call ((bif (((!y1) == false) && true) then filter_Sum F ([54, 55, 56, 57] : List UInt8) else some 0)) fun y3 =>
  call ((bif (((!y1) == false) && true) then filter_Join F y2 y3 (4 : Int) else some 0)) fun y4 =>
  bif (bif (!y1) then true else (y4 != (3421780262 : Int))) then
    some false
  else
    call (bif (decide (a2 > (2000 : Int))) then
        some (a2.tmod (2000 : Int))
      else
        some a2)
      fun v1 =>
    call (filter_Join F a0 a1 v1) fun y5 =>
    call (ref3_Joined F a0 a1 (if v1 < (0 : Int) then (0 : Int) else v1)) fun y6 =>
    some (y5 == y6)

def filter_repeated_L0 (F : Nat) (a0 : List UInt8) : Nat → Int → Option Int
  | 0, _ => none
  | n + 1, v1 =>
    chk ((((bif (decide (v1 < (a0.length : Int))) then (decide (v1 < (128 : Int))) else false) == true) && true) = true → 0 ≤ v1 ∧ v1 < a0.length) <|
    chk ((((bif (decide (v1 < (a0.length : Int))) then (decide (v1 < (128 : Int))) else false) == true) && true) = true → 0 ≤ (0 : Int) ∧ (0 : Int) < a0.length) <|
    lett ((bif (bif (decide (v1 < (a0.length : Int))) then (decide (v1 < (128 : Int))) else false) then (((a0.getD v1.toNat 0).toNat : Int) == ((a0.getD (0 : Int).toNat 0).toNat : Int)) else false)) fun z1 =>
    bif z1 then
      filter_repeated_L0 F a0 n (IntKind.i64.wrap (v1 + (1 : Int)))
    else
      some v1

/-- printworks/filter.repeated -/
def filter_repeated (F : Nat) (a0 : List UInt8) : Option Int :=
  call (filter_repeated_L0 F a0 F (1 : Int))
    fun v2 =>
  some v2

/-- (*strings.Builder).WriteByte -/
def strings_Builder_WriteByte (F : Nat) (a0 : Int) (c1 : List UInt8) : Option (Unit × (List UInt8)) :=
  chk (0 ≤ a0 ∧ a0 < 256) <|
  chk (c1.length + ([(UInt8.ofNat a0.toNat)]).length ≤ 4294967296) <|
  some ((), (c1 ++ ([(UInt8.ofNat a0.toNat)])))

def filter_runs_encode_L2 (F : Nat) (a1 : List UInt8) (v1 : Int) : Nat → (List Int) → (List Int) → Int → Option ((List Int) × (List Int))
  | 0, _, _, _ => none
  | n + 1, v2, v3, v4 =>
    lett ((bif (decide (v4 ≤ (128 : Int))) then (decide ((IntKind.i64.wrap (v1 + v4)) ≤ (a1.length : Int))) else false)) fun z1 =>
    bif z1 then
      call (chk (0 ≤ (IntKind.i64.wrap (v1 + v4)) ∧ (IntKind.i64.wrap (v1 + v4)) < v2.length) <|
        lett (IntKind.i64.wrap ((IntKind.i64.wrap ((1 : Int) + v4)) + (v2.getD (IntKind.i64.wrap (v1 + v4)).toNat 0))) fun z2 =>
        chk (0 ≤ v1 ∧ v1 < v2.length) <|
        bif (decide (z2 < (v2.getD v1.toNat 0))) then
          chk (0 ≤ v1 ∧ v1 < v2.length) <|
          chk (0 ≤ v1 ∧ v1 < v3.length) <|
          some ((v2.set v1.toNat z2), (v3.set v1.toNat v4))
        else
          some (v2, v3))
        fun (v5, v6) =>
      filter_runs_encode_L2 F a1 v1 n v5 v6 (IntKind.i64.wrap (v4 + (1 : Int)))
    else
      some (v2, v3)

def filter_runs_encode_L0 (F : Nat) (a1 : List UInt8) : Nat → (List Int) → (List Int) → Int → Option ((List Int))
  | 0, _, _, _ => none
  | n + 1, v7, v8, v1 =>
    bif (decide (v1 ≥ (0 : Int))) then
      chk (0 ≤ v1 ∧ v1 ≤ (a1.length : Int) ∧ (a1.length : Int) ≤ (a1.length : Int)) <|
      call (filter_repeated F ((a1.drop v1.toNat).take ((a1.length : Int).toNat - v1.toNat))) fun y1 =>
      chk (0 ≤ (IntKind.i64.wrap (v1 + y1)) ∧ (IntKind.i64.wrap (v1 + y1)) < v7.length) <|
      chk (0 ≤ v1 ∧ v1 < v7.length) <|
      chk (0 ≤ v1 ∧ v1 < v8.length) <|
      call (bif (y1 == (1 : Int)) then
          chk (0 ≤ (IntKind.i64.wrap (v1 + (1 : Int))) ∧ (IntKind.i64.wrap (v1 + (1 : Int))) < (v7.set v1.toNat (IntKind.i64.wrap ((2 : Int) + (v7.getD (IntKind.i64.wrap (v1 + y1)).toNat 0)))).length) <|
          lett (((v7.set v1.toNat (IntKind.i64.wrap ((2 : Int) + (v7.getD (IntKind.i64.wrap (v1 + y1)).toNat 0)))).getD (IntKind.i64.wrap (v1 + (1 : Int))).toNat 0)) fun z3 =>
          chk (0 ≤ v1 ∧ v1 < (v7.set v1.toNat (IntKind.i64.wrap ((2 : Int) + (v7.getD (IntKind.i64.wrap (v1 + y1)).toNat 0)))).length) <|
          chk (0 ≤ v1 ∧ v1 < (v8.set v1.toNat (IntKind.i64.wrap (0 - y1))).length) <|
          some (((v7.set v1.toNat (IntKind.i64.wrap ((2 : Int) + (v7.getD (IntKind.i64.wrap (v1 + y1)).toNat 0)))).set v1.toNat (IntKind.i64.wrap ((2 : Int) + z3))), ((v8.set v1.toNat (IntKind.i64.wrap (0 - y1))).set v1.toNat (1 : Int)))
        else
          some ((v7.set v1.toNat (IntKind.i64.wrap ((2 : Int) + (v7.getD (IntKind.i64.wrap (v1 + y1)).toNat 0)))), (v8.set v1.toNat (IntKind.i64.wrap (0 - y1)))))
        fun (v9, v10) =>
      call (filter_runs_encode_L2 F a1 v1 F v9 v10 (1 : Int))
        fun (v11, v12) =>
      filter_runs_encode_L0 F a1 n v11 v12 (IntKind.i64.wrap (v1 - (1 : Int)))
    else
      some v8

def filter_runs_encode_L4 (F : Nat) (a1 : List UInt8) (v13 : List Int) : Nat → (List UInt8) → Int → Option ((List UInt8))
  | 0, _, _ => none
  | n + 1, v14, v15 =>
    bif (decide (v15 < (a1.length : Int))) then
      chk (0 ≤ v15 ∧ v15 < v13.length) <|
      bif (decide ((v13.getD v15.toNat 0) < (0 : Int))) then
        call (strings_Builder_WriteByte F (IntKind.u8.wrap (IntKind.i64.wrap ((257 : Int) + (v13.getD v15.toNat 0)))) v14) fun y2 =>
        chk (0 ≤ v15 ∧ v15 < a1.length) <|
        call (strings_Builder_WriteByte F ((a1.getD v15.toNat 0).toNat : Int) y2.2) fun y3 =>
        filter_runs_encode_L4 F a1 v13 n y3.2 (IntKind.i64.wrap (v15 - (v13.getD v15.toNat 0)))
      else
        call (strings_Builder_WriteByte F (IntKind.u8.wrap (IntKind.i64.wrap ((v13.getD v15.toNat 0) - (1 : Int)))) v14) fun y4 =>
        chk (0 ≤ v15 ∧ v15 ≤ (IntKind.i64.wrap (v15 + (v13.getD v15.toNat 0))) ∧ (IntKind.i64.wrap (v15 + (v13.getD v15.toNat 0))) ≤ (a1.length : Int)) <|
        lett (((a1.drop v15.toNat).take ((IntKind.i64.wrap (v15 + (v13.getD v15.toNat 0))).toNat - v15.toNat))) fun z4 =>
        call (strings_Builder_WriteString F z4 y4.2) fun y5 =>
        filter_runs_encode_L4 F a1 v13 n y5.2.2 (IntKind.i64.wrap (v15 + (v13.getD v15.toNat 0)))
    else
      some v14

/-- (printworks/filter.runs).encode -/
def filter_runs_encode (F : Nat) (a0 : S_filter_copies) (a1 : List UInt8) : Option ((List UInt8)) :=
  chk (0 ≤ (IntKind.i64.wrap ((a1.length : Int) + (1 : Int))) ∧ (IntKind.i64.wrap ((a1.length : Int) + (1 : Int))) ≤ (IntKind.i64.wrap ((a1.length : Int) + (1 : Int))) ∧ (IntKind.i64.wrap ((a1.length : Int) + (1 : Int))) ≤ 9223372036854775807 ∧ ((8 : Nat) : Int) * (IntKind.i64.wrap ((a1.length : Int) + (1 : Int))) ≤ 281474976710656) <|
  chk (0 ≤ (IntKind.i64.wrap ((a1.length : Int) + (1 : Int))) ∧ (IntKind.i64.wrap ((a1.length : Int) + (1 : Int))) ≤ (IntKind.i64.wrap ((a1.length : Int) + (1 : Int))) ∧ (IntKind.i64.wrap ((a1.length : Int) + (1 : Int))) ≤ 9223372036854775807 ∧ ((8 : Nat) : Int) * (IntKind.i64.wrap ((a1.length : Int) + (1 : Int))) ≤ 281474976710656) <|
  call (filter_runs_encode_L0 F a1 F (List.replicate (IntKind.i64.wrap ((a1.length : Int) + (1 : Int))).toNat 0) (List.replicate (IntKind.i64.wrap ((a1.length : Int) + (1 : Int))).toNat 0) (IntKind.i64.wrap ((a1.length : Int) - (1 : Int))))
    fun v13 =>
  call (filter_runs_encode_L4 F a1 v13 F [] (0 : Int))
    fun v16 =>
  chk (v16.length ≤ 9223372036854775807) <|
  some v16

def filter_rows_encode_L0 (F : Nat) (a0 : S_filter_rows) : Nat → (List UInt8) → Int → Option ((List UInt8))
  | 0, _, _ => none
  | n + 1, v1, v2 =>
    bif (decide (v2 ≥ a0.f0)) then
      chk (0 ≤ v2 ∧ v2 < v1.length) <|
      chk (0 ≤ (IntKind.i64.wrap (v2 - a0.f0)) ∧ (IntKind.i64.wrap (v2 - a0.f0)) < v1.length) <|
      lett (IntKind.u8.wrap (((v1.getD v2.toNat 0).toNat : Int) - ((v1.getD (IntKind.i64.wrap (v2 - a0.f0)).toNat 0).toNat : Int))) fun z1 =>
      chk (0 ≤ v2 ∧ v2 < v1.length) <|
      chk (0 ≤ z1 ∧ z1 < 256) <|
      filter_rows_encode_L0 F a0 n (v1.set v2.toNat (UInt8.ofNat z1.toNat)) (IntKind.i64.wrap (v2 - (1 : Int)))
    else
      some v1

/-- (printworks/filter.rows).encode -/
def filter_rows_encode (F : Nat) (a0 : S_filter_rows) (a1 : List UInt8) : Option ((List UInt8)) :=
  call (filter_rows_encode_L0 F a0 F a1 (IntKind.i64.wrap ((a1.length : Int) - (1 : Int))))
    fun v3 =>
  some v3

def filter_text_encode_L0 (F : Nat)  : Nat → (List UInt8) → (List UInt8) → Option ((List UInt8))
  | 0, _, _ => none
  | n + 1, v1, v2 =>
    bif (!(v1 == [])) then
      chk (0 ≤ (0 : Int) ∧ (0 : Int) ≤ (if (4 : Int) < (v1.length : Int) then (4 : Int) else (v1.length : Int)) ∧ (if (4 : Int) < (v1.length : Int) then (4 : Int) else (v1.length : Int)) ≤ (v1.length : Int)) <|
      lett (((v1.drop (0 : Int).toNat).take ((if (4 : Int) < (v1.length : Int) then (4 : Int) else (v1.length : Int)).toNat - (0 : Int).toNat))) fun z1 =>
      call (filter_group F z1) fun y1 =>
      call (strings_Builder_WriteString F y1 v2) fun y2 =>
      chk (0 ≤ (if (4 : Int) < (v1.length : Int) then (4 : Int) else (v1.length : Int)) ∧ (if (4 : Int) < (v1.length : Int) then (4 : Int) else (v1.length : Int)) ≤ (v1.length : Int) ∧ (v1.length : Int) ≤ (v1.length : Int)) <|
      lett (((v1.drop (if (4 : Int) < (v1.length : Int) then (4 : Int) else (v1.length : Int)).toNat).take ((v1.length : Int).toNat - (if (4 : Int) < (v1.length : Int) then (4 : Int) else (v1.length : Int)).toNat))) fun z2 =>
      filter_text_encode_L0 F n z2 y2.2.2
    else
      some v2

/-- (printworks/filter.text).encode -/
def filter_text_encode (F : Nat) (a0 : S_filter_copies) (a1 : List UInt8) : Option ((List UInt8)) :=
  call (filter_text_encode_L0 F F a1 [])
    fun v3 =>
  chk (v3.length ≤ 9223372036854775807) <|
  some v3

/-- the method printworks/filter.encode -/
def I_filter_coding_encode (F : Nat) (x : I_filter_coding) (a1 : List UInt8) : Option ((List UInt8)) :=
  match x with
  | .nil => none
  | .k_runs x => filter_runs_encode F x a1
  | .k_rows x => filter_rows_encode F x a1
  | .k_copies _ => none
  | .k_text x => filter_text_encode F x a1

def filter_Encode_L0 (F : Nat) (a0 : List S_FilterStep) : Nat → (List UInt8) → Int → Option ((List UInt8))
  | 0, _, _ => none
  | n + 1, v1, v2 =>
    bif (decide (v2 < (a0.length : Int))) then
      chk (0 ≤ v2 ∧ v2 < a0.length) <|
      call (filter_codingOf F (S_FilterStep.mk ((a0.getD v2.toNat (S_FilterStep.mk 0 0)).f0) ((a0.getD v2.toNat (S_FilterStep.mk 0 0)).f1))) fun y1 =>
      call (I_filter_coding_encode F y1 v1) fun y2 =>
      filter_Encode_L0 F a0 n y2 (IntKind.i64.wrap (v2 + (1 : Int)))
    else
      some v1

/-- printworks/filter.Encode -/
def filter_Encode (F : Nat) (a0 : List S_FilterStep) (a1 : List UInt8) : Option ((List UInt8) × Int) :=
  call (filter_Check F a0) fun y3 =>
  bif (y3 != (0 : Int)) then
    some ([], y3)
  else
    bif (decide ((a1.length : Int) > (16384 : Int))) then
      some ([], (2 : Int))
    else
      call (filter_Encode_L0 F a0 F a1 (0 : Int))
        fun v3 =>
      call (strings_Clone F v3) fun y4 =>
      some (y4, (0 : Int))

def ref3_RunBytes_L2 (F : Nat) (a0 : List UInt8) (v1 : Int) : Nat → (List Int) → Bool → Int → Option ((List Int))
  | 0, _, _, _ => none
  | n + 1, v2, v3, v4 =>
    bif (bif (decide (v4 ≤ (128 : Int))) then (decide (v4 ≤ v1)) else false) then
      call (chk (((v3 == true) && true) = true → 0 ≤ (IntKind.i64.wrap (v1 - v4)) ∧ (IntKind.i64.wrap (v1 - v4)) < a0.length) <|
        chk (((v3 == true) && true) = true → 0 ≤ (IntKind.i64.wrap (v1 - (1 : Int))) ∧ (IntKind.i64.wrap (v1 - (1 : Int))) < a0.length) <|
        lett ((((a0.getD (IntKind.i64.wrap (v1 - v4)).toNat 0).toNat : Int) == ((a0.getD (IntKind.i64.wrap (v1 - (1 : Int))).toNat 0).toNat : Int))) fun z1 =>
        call (chk (0 ≤ (IntKind.i64.wrap (v1 - v4)) ∧ (IntKind.i64.wrap (v1 - v4)) < v2.length) <|
          lett (IntKind.i64.wrap ((IntKind.i64.wrap ((v2.getD (IntKind.i64.wrap (v1 - v4)).toNat 0) + (1 : Int))) + v4)) fun z2 =>
          chk (0 ≤ v1 ∧ v1 < v2.length) <|
          bif (decide (z2 < (v2.getD v1.toNat 0))) then
            chk (0 ≤ v1 ∧ v1 < v2.length) <|
            some (v2.set v1.toNat z2)
          else
            some v2)
          fun v5 =>
        chk (0 ≤ (IntKind.i64.wrap (v1 - v4)) ∧ (IntKind.i64.wrap (v1 - v4)) < v5.length) <|
        chk ((((bif (bif v3 then z1 else false) then (decide (v4 > (1 : Int))) else false) == true) && true) = true → 0 ≤ v1 ∧ v1 < v5.length) <|
        lett ((decide ((IntKind.i64.wrap ((v5.getD (IntKind.i64.wrap (v1 - v4)).toNat 0) + (2 : Int))) < (v5.getD v1.toNat 0)))) fun z3 =>
        lett ((bif (bif (bif v3 then z1 else false) then (decide (v4 > (1 : Int))) else false) then z3 else false)) fun z4 =>
        bif z4 then
          chk (0 ≤ v1 ∧ v1 < v5.length) <|
          some ((v5.set v1.toNat (IntKind.i64.wrap ((v5.getD (IntKind.i64.wrap (v1 - v4)).toNat 0) + (2 : Int)))), (bif v3 then z1 else false))
        else
          some (v5, (bif v3 then z1 else false)))
        fun (v6, v7) =>
      ref3_RunBytes_L2 F a0 v1 n v6 v7 (IntKind.i64.wrap (v4 + (1 : Int)))
    else
      some v2

def ref3_RunBytes_L0 (F : Nat) (a0 : List UInt8) : Nat → (List Int) → Int → Option ((List Int))
  | 0, _, _ => none
  | n + 1, v8, v1 =>
    bif (decide (v1 ≤ (a0.length : Int))) then
      chk (0 ≤ (IntKind.i64.wrap (v1 - (1 : Int))) ∧ (IntKind.i64.wrap (v1 - (1 : Int))) < v8.length) <|
      chk (0 ≤ v1 ∧ v1 < v8.length) <|
      call (ref3_RunBytes_L2 F a0 v1 F (v8.set v1.toNat (IntKind.i64.wrap ((v8.getD (IntKind.i64.wrap (v1 - (1 : Int))).toNat 0) + (2 : Int)))) true (1 : Int))
        fun v9 =>
      ref3_RunBytes_L0 F a0 n v9 (IntKind.i64.wrap (v1 + (1 : Int)))
    else
      some v8

/-- printworks/printworksref3.RunBytes -/
def ref3_RunBytes (F : Nat) (a0 : List UInt8) : Option Int :=
  chk (0 ≤ (IntKind.i64.wrap ((a0.length : Int) + (1 : Int))) ∧ (IntKind.i64.wrap ((a0.length : Int) + (1 : Int))) ≤ (IntKind.i64.wrap ((a0.length : Int) + (1 : Int))) ∧ (IntKind.i64.wrap ((a0.length : Int) + (1 : Int))) ≤ 9223372036854775807 ∧ ((8 : Nat) : Int) * (IntKind.i64.wrap ((a0.length : Int) + (1 : Int))) ≤ 281474976710656) <|
  call (ref3_RunBytes_L0 F a0 F (List.replicate (IntKind.i64.wrap ((a0.length : Int) + (1 : Int))).toNat 0) (1 : Int))
    fun v10 =>
  chk (0 ≤ (a0.length : Int) ∧ (a0.length : Int) < v10.length) <|
  some (v10.getD (a0.length : Int).toNat 0)

/-- printworks/printworkslaw3.FilterRunShortest -/
def law3_FilterRunShortest (F : Nat) (a0 : List UInt8) : Option Bool :=
  call (law3_filterFact F) fun y1 =>
  bif (!y1) then
    some false
  else
    call (bif (decide ((a0.length : Int) > (2000 : Int))) then
        chk (0 ≤ (0 : Int) ∧ (0 : Int) ≤ (2000 : Int) ∧ (2000 : Int) ≤ (a0.length : Int)) <|
        some ((a0.drop (0 : Int).toNat).take ((2000 : Int).toNat - (0 : Int).toNat))
      else
        some a0)
      fun v1 =>
    call (filter_Encode F ([(S_FilterStep.mk (1 : Int) 0)]) v1) fun y2 =>
    call (ref3_Decoded F ([(S_FilterStep.mk (1 : Int) 0)]) y2.1) fun y3 =>
    call ((bif (((bif (bif (y2.2 == (0 : Int)) then (y3.2 == (0 : Int)) else false) then (y3.1 == v1) else false) == true) && true) then ref3_RunBytes F v1 else some 0)) fun y4 =>
    lett ((bif (bif (bif (y2.2 == (0 : Int)) then (y3.2 == (0 : Int)) else false) then (y3.1 == v1) else false) then ((y2.1.length : Int) == y4) else false)) fun z1 =>
    some z1

end Go.Vm.FilG
