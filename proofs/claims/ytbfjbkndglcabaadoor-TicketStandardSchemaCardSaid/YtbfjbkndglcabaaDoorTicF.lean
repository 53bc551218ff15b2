import Derived.Test.YtbfjbkndglcabaaDoorVmC
import Derived.Test.YtbfjbkndglcabaaDoorVmD
import Derived.Lib.ItoaNum
import Derived.Lib.Bytealg
namespace Go.Vm.TicG
structure S_Object where
  f0:Int
  f1:Int
  f2:List UInt8
  f3:List (List UInt8)
  f4:List S_Object
mutual
def rS_Object:S_Object→List Dat
  | ⟨x0,x1,x2,x3,x4⟩=>(cI .i64) x0++(cI .i64) x1++cS x2++(cL 1 cS) x3++[Dat.sl 5 (rsS_Object x4)]
def rsS_Object:List S_Object→List (List Dat)
  | []=>[]
  | x :: l=>rS_Object x :: rsS_Object l
end
theorem rsS_Object_eq:∀ l,rsS_Object l=l.map rS_Object
  | []=>rfl
  | x :: l=>congrArg (rS_Object x :: ·) (rsS_Object_eq l)
def cS_Object (x:S_Object):List Dat:=(cI .i64) x.f0++(cI .i64) x.f1++cS x.f2++(cL 1 cS) x.f3++(cL 5 rS_Object) x.f4
theorem rS_Object_eq:∀ x,rS_Object x=cS_Object x
  | ⟨x0,x1,x2,x3,x4⟩=>by simp only [rS_Object,cS_Object,rsS_Object_eq,cL]
structure S_TicketField where
  f0:List UInt8
  f1:Int
  f2:Int
  f3:Int
  f4:List (List UInt8)
  f5:List S_TicketField
  f6:Bool
  f7:S_Object
mutual
def rS_TicketField:S_TicketField→List Dat
  | ⟨x0,x1,x2,x3,x4,x5,x6,x7⟩=>cS x0++(cI .i64) x1++(cI .i64) x2++(cI .i64) x3++(cL 1 cS) x4++[Dat.sl 12 (rsS_TicketField x5)]++cB x6++cS_Object x7
def rsS_TicketField:List S_TicketField→List (List Dat)
  | []=>[]
  | x :: l=>rS_TicketField x :: rsS_TicketField l
end
theorem rsS_TicketField_eq:∀ l,rsS_TicketField l=l.map rS_TicketField
  | []=>rfl
  | x :: l=>congrArg (rS_TicketField x :: ·) (rsS_TicketField_eq l)
def cS_TicketField (x:S_TicketField):List Dat:=cS x.f0++(cI .i64) x.f1++(cI .i64) x.f2++(cI .i64) x.f3++(cL 1 cS) x.f4++(cL 12 rS_TicketField) x.f5++cB x.f6++cS_Object x.f7
theorem rS_TicketField_eq:∀ x,rS_TicketField x=cS_TicketField x
  | ⟨x0,x1,x2,x3,x4,x5,x6,x7⟩=>by simp only [rS_TicketField,cS_TicketField,rsS_TicketField_eq,cL]
structure S_TicketFinding where
  f0:List (List UInt8)
  f1:Int
deriving DecidableEq
def cS_TicketFinding (x:S_TicketFinding):List Dat:=(cL 1 cS) x.f0++(cI .i64) x.f1
structure S_Token where
  f0:Int
  f1:Int
  f2:List UInt8
  f3:Int
  f4:Int
deriving DecidableEq
def cS_Token (x:S_Token):List Dat:=(cI .i64) x.f0++(cI .i64) x.f1++cS x.f2++(cI .i64) x.f3++(cI .i64) x.f4
def glob_internal_strconv_uint64pow10:List Int:=[1,10,100,1000,10000,100000,1000000,10000000,100000000,1000000000,10000000000,100000000000,1000000000000,10000000000000,100000000000000,1000000000000000,10000000000000000,100000000000000000,1000000000000000000,10000000000000000000]
/-- printworks/printworkslaw3.whole -/
def law3_whole (F:Nat) (a0:Int) (a1:Int):Option S_TicketField :=
  some (S_TicketField.mk [] (4:Int) 0 0 [] ([(S_TicketField.mk ([78]:List UInt8) (0:Int) a0 a1 [] [] true (S_Object.mk 0 0 [] [] []))]) false (S_Object.mk 0 0 [] [] []))
/-- printworks/token.letter -/
def token_letter (F:Nat) (a0:Int):Option Bool :=
  lett ((bif (bif (decide ((97:Int)≤a0)) then (decide (a0≤(122:Int))) else false) then true else (bif (decide ((65:Int)≤a0)) then (decide (a0≤(90:Int))) else false))) fun z1 =>
  some z1
/-- printworks/token.digit -/
def token_digit (F:Nat) (a0:Int):Option Bool :=
  some (bif (decide ((48:Int)≤a0)) then (decide (a0≤(57:Int))) else false)
/-- printworks/token.limited -/
def token_limited (F:Nat) (a0:List UInt8) (a1:Int):Option ((List UInt8)×Int) :=
  bif (decide ((a0.length:Int) > a1)) then
    some ([],(2:Int))
  else
    some (a0,(0:Int))
def token_word_L0 (F:Nat) (a0:List UInt8):Nat→Int→Option (Out Unit ((List UInt8)×Int))
  | 0,_=>none
  | n+1,v1 =>
    bif (decide (v1 < (a0.length:Int))) then
      chk (0≤v1∧v1 < a0.length) <|
      call (token_letter F ((a0.getD v1.toNat 0).toNat:Int)) fun y1 =>
      call ((bif (((v1 == (0:Int)) == false) && (((!y1) == true) && true)) then token_digit F ((a0.getD v1.toNat 0).toNat:Int) else some false)) fun y2 =>
      lett ((bif (bif (!y1) then (bif (v1 == (0:Int)) then true else (!y2)) else false) then (((a0.getD v1.toNat 0).toNat:Int) != (42:Int)) else false)) fun z1 =>
      lett ((bif (bif z1 then (((a0.getD v1.toNat 0).toNat:Int) != (95:Int)) else false) then (((a0.getD v1.toNat 0).toNat:Int) != (46:Int)) else false)) fun z2 =>
      bif z2 then
        some (.esc ([],(5:Int)))
      else
        token_word_L0 F a0 n (IntKind.i64.wrap (v1+(1:Int)))
    else
      some (.go ())
/-- printworks/token.word -/
def token_word (F:Nat) (a0:List UInt8):Option ((List UInt8)×Int) :=
  callE (token_word_L0 F a0 F (0:Int))
    (fun e=>some e) fun _ =>
  bif (a0 == []) then
    some ([],(5:Int))
  else
    call (token_limited F a0 (31:Int)) fun y3 =>
    some (y3.1,y3.2)
/-- printworks/token.bad -/
def token_bad (F:Nat) (a0:Int):Option Int :=
  bif (a0 == (5:Int)) then
    some (4:Int)
  else
    some a0
/-- printworks/token.check -/
def token_check (F:Nat) (a0:S_Token):Option Int :=
  lett ((bif (bif (a0.f0 == (2:Int)) then true else (a0.f0 == (3:Int))) then true else (a0.f0 == (5:Int)))) fun z1 =>
  callE (bif (bif (decide (a0.f0 < (1:Int))) then true else (decide (a0.f0 > (9:Int)))) then
      some (.esc (14:Int))
    else
      call (lett ((bif (a0.f1 != (0:Int)) then (!(bif (a0.f0 == (1:Int)) then true else (a0.f0 == (4:Int)))) else false)) fun z2 =>
        bif z2 then
          some z2
        else
          some (bif (!(a0.f2 == [])) then (!z1) else false))
        fun v1 =>
      bif v1 then
        some (.esc (4:Int))
      else
        lett ((bif (a0.f2 == []) then true else (decide ((Lib.indexByte a0.f2 (0:Int).toNat.toUInt8) ≥ (0:Int))))) fun z3 =>
        bif (bif (a0.f0 == (2:Int)) then z3 else false) then
          some (.esc (4:Int))
        else
          lett ((bif (a0.f0 == (1:Int)) then (bif (decide (a0.f1 < (-2147483647:Int))) then true else (decide (a0.f1 > (2147483647:Int)))) else false)) fun z4 =>
          bif z4 then
            some (.esc (3:Int))
          else
            lett ((bif (a0.f0 == (4:Int)) then (bif (decide (a0.f1 < (1:Int))) then true else (decide (a0.f1 > (255:Int)))) else false)) fun z5 =>
            bif z5 then
              some (.esc (3:Int))
            else
              call (bif (bif (a0.f0 == (2:Int)) then (decide ((a0.f2.length:Int) > (31:Int))) else false) then
                  some (bif (a0.f0 == (2:Int)) then (decide ((a0.f2.length:Int) > (31:Int))) else false)
                else
                  some (bif (decide ((a0.f2.length:Int) > (1024:Int))) then (a0.f0 == (3:Int)) else false))
                fun v2 =>
              bif v2 then
                some (.esc (2:Int))
              else
                bif (a0.f0 == (5:Int)) then
                  call (token_word F a0.f2) fun y1 =>
                  bif (y1.2 != (0:Int)) then
                    call (token_bad F y1.2) fun y2 =>
                    some (.esc y2)
                  else
                    some (.go ())
                else
                  some (.go ()))
    (fun e=>some e) fun _ =>
  some (0:Int)
/-- (*strings.Builder).WriteByte -/
def strings_Builder_WriteByte (F:Nat) (a0:Int) (c1:List UInt8):Option (Unit×(List UInt8)) :=
  chk (0≤a0∧a0 < 256) <|
  chk (c1.length+([(UInt8.ofNat a0.toNat)]).length≤4294967296) <|
  some ((),(c1++([(UInt8.ofNat a0.toNat)])))
def token_printedName_L0 (F:Nat) (a0:List UInt8):Nat→(List UInt8)→Int→Option ((List UInt8))
  | 0,_,_=>none
  | n+1,v1,v2 =>
    bif (decide (v2 < (a0.length:Int))) then
      call (chk (0≤v2∧v2 < a0.length) <|
        call (token_letter F ((a0.getD v2.toNat 0).toNat:Int)) fun y1 =>
        call ((bif ((y1 == false) && true) then token_digit F ((a0.getD v2.toNat 0).toNat:Int) else some false)) fun y2 =>
        lett ((bif (bif y1 then true else y2) then true else (((a0.getD v2.toNat 0).toNat:Int) == (95:Int)))) fun z1 =>
        lett ((bif (bif z1 then true else (((a0.getD v2.toNat 0).toNat:Int) == (45:Int))) then true else (((a0.getD v2.toNat 0).toNat:Int) == (46:Int)))) fun z2 =>
        bif z2 then
          call (strings_Builder_WriteByte F ((a0.getD v2.toNat 0).toNat:Int) v1) fun y3 =>
          some y3.2
        else
          call (strings_Builder_WriteByte F (35:Int) v1) fun y4 =>
          chk (0≤(((a0.getD v2.toNat 0).toNat:Int).fdiv (2 ^ (min (4:Int).toNat IntKind.u8.bits)))∧(((a0.getD v2.toNat 0).toNat:Int).fdiv (2 ^ (min (4:Int).toNat IntKind.u8.bits))) < ([48,49,50,51,52,53,54,55,56,57,97,98,99,100,101,102]:List UInt8).length) <|
          lett (((([48,49,50,51,52,53,54,55,56,57,97,98,99,100,101,102]:List UInt8).getD (((a0.getD v2.toNat 0).toNat:Int).fdiv (2 ^ (min (4:Int).toNat IntKind.u8.bits))).toNat 0).toNat:Int)) fun z3 =>
          call (strings_Builder_WriteByte F z3 y4.2) fun y5 =>
          lett (IntKind.u8.wrap ((BitVec.ofInt IntKind.u8.bits ((a0.getD v2.toNat 0).toNat:Int) &&& BitVec.ofInt IntKind.u8.bits (15:Int)).toNat:Int)) fun z4 =>
          chk (0≤z4∧z4 < ([48,49,50,51,52,53,54,55,56,57,97,98,99,100,101,102]:List UInt8).length) <|
          lett (((([48,49,50,51,52,53,54,55,56,57,97,98,99,100,101,102]:List UInt8).getD z4.toNat 0).toNat:Int)) fun z5 =>
          call (strings_Builder_WriteByte F z5 y5.2) fun y6 =>
          some y6.2)
        fun v3 =>
      token_printedName_L0 F a0 n v3 (IntKind.i64.wrap (v2+(1:Int)))
    else
      some v1
/-- printworks/token.printedName -/
def token_printedName (F:Nat) (a0:List UInt8):Option ((List UInt8)) :=
  call (token_printedName_L0 F a0 F [] (0:Int))
    fun v4 =>
  chk (v4.length≤9223372036854775807) <|
  some v4
/-- (*strings.Builder).WriteString -/
def strings_Builder_WriteString (F:Nat) (a0:List UInt8) (c1:List UInt8):Option (Int×Unit×(List UInt8)) :=
  chk (c1.length+a0.length≤4294967296) <|
  some ((a0.length:Int),(),(c1++a0))
def token_printedText_L0 (F:Nat) (a0:List UInt8):Nat→(List UInt8)→Int→Option ((List UInt8))
  | 0,_,_=>none
  | n+1,v1,v2 =>
    bif (decide (v2 < (a0.length:Int))) then
      call (chk (0≤v2∧v2 < a0.length) <|
        bif (((a0.getD v2.toNat 0).toNat:Int) == (10:Int)) then
          call (strings_Builder_WriteString F ([92,110]:List UInt8) v1) fun y1 =>
          some y1.2.2
        else
          bif (((a0.getD v2.toNat 0).toNat:Int) == (9:Int)) then
            call (strings_Builder_WriteString F ([92,116]:List UInt8) v1) fun y2 =>
            some y2.2.2
          else
            lett ((bif (((a0.getD v2.toNat 0).toNat:Int) == (40:Int)) then true else (((a0.getD v2.toNat 0).toNat:Int) == (41:Int)))) fun z1 =>
            bif (bif z1 then true else (((a0.getD v2.toNat 0).toNat:Int) == (92:Int))) then
              call (strings_Builder_WriteByte F (92:Int) v1) fun y3 =>
              call (strings_Builder_WriteByte F ((a0.getD v2.toNat 0).toNat:Int) y3.2) fun y4 =>
              some y4.2
            else
              lett ((bif (decide (((a0.getD v2.toNat 0).toNat:Int) < (32:Int))) then true else (decide (((a0.getD v2.toNat 0).toNat:Int) > (125:Int))))) fun z2 =>
              bif z2 then
                call (strings_Builder_WriteString F ([92,120]:List UInt8) v1) fun y5 =>
                chk (0≤(((a0.getD v2.toNat 0).toNat:Int).fdiv (2 ^ (min (4:Int).toNat IntKind.u8.bits)))∧(((a0.getD v2.toNat 0).toNat:Int).fdiv (2 ^ (min (4:Int).toNat IntKind.u8.bits))) < ([48,49,50,51,52,53,54,55,56,57,97,98,99,100,101,102]:List UInt8).length) <|
                lett (((([48,49,50,51,52,53,54,55,56,57,97,98,99,100,101,102]:List UInt8).getD (((a0.getD v2.toNat 0).toNat:Int).fdiv (2 ^ (min (4:Int).toNat IntKind.u8.bits))).toNat 0).toNat:Int)) fun z3 =>
                call (strings_Builder_WriteByte F z3 y5.2.2) fun y6 =>
                lett (IntKind.u8.wrap ((BitVec.ofInt IntKind.u8.bits ((a0.getD v2.toNat 0).toNat:Int) &&& BitVec.ofInt IntKind.u8.bits (15:Int)).toNat:Int)) fun z4 =>
                chk (0≤z4∧z4 < ([48,49,50,51,52,53,54,55,56,57,97,98,99,100,101,102]:List UInt8).length) <|
                lett (((([48,49,50,51,52,53,54,55,56,57,97,98,99,100,101,102]:List UInt8).getD z4.toNat 0).toNat:Int)) fun z5 =>
                call (strings_Builder_WriteByte F z5 y6.2) fun y7 =>
                some y7.2
              else
                call (strings_Builder_WriteByte F ((a0.getD v2.toNat 0).toNat:Int) v1) fun y8 =>
                some y8.2)
        fun v3 =>
      token_printedText_L0 F a0 n v3 (IntKind.i64.wrap (v2+(1:Int)))
    else
      some v1
/-- printworks/token.printedText -/
def token_printedText (F:Nat) (a0:List UInt8):Option ((List UInt8)) :=
  call (strings_Builder_WriteByte F (40:Int) []) fun y9 =>
  call (token_printedText_L0 F a0 F y9.2 (0:Int))
    fun v4 =>
  call (strings_Builder_WriteByte F (41:Int) v4) fun y10 =>
  chk (y10.2.length≤9223372036854775807) <|
  some y10.2
/-- printworks/token.Print -/
def token_Print (F:Nat) (a0:S_Token):Option ((List UInt8)×Int) :=
  call (token_check F a0) fun y1 =>
  bif (y1 != (0:Int)) then
    some ([],y1)
  else
    bif (a0.f0 == (1:Int)) then
      chk (-9223372036854775808≤a0.f1∧a0.f1≤9223372036854775807) <|
      some ((Lib.itoa a0.f1),(0:Int))
    else
      bif (a0.f0 == (2:Int)) then
        call (token_printedName F a0.f2) fun y2 =>
        chk (([47]:List UInt8).length+y2.length≤9223372036854775807) <|
        some ((([47]:List UInt8)++y2),(0:Int))
      else
        bif (a0.f0 == (3:Int)) then
          call (token_printedText F a0.f2) fun y3 =>
          some (y3,(0:Int))
        else
          bif (a0.f0 == (4:Int)) then
            chk (-9223372036854775808≤a0.f1∧a0.f1≤9223372036854775807) <|
            chk (([64]:List UInt8).length+(Lib.itoa a0.f1).length≤9223372036854775807) <|
            some ((([64]:List UInt8)++(Lib.itoa a0.f1)),(0:Int))
          else
            bif (a0.f0 == (5:Int)) then
              some (a0.f2,(0:Int))
            else
              chk (0≤(IntKind.i64.wrap (a0.f0 - (6:Int)))∧(IntKind.i64.wrap (a0.f0 - (6:Int))) < ([([91]:List UInt8),([93]:List UInt8),([60,60]:List UInt8),([62,62]:List UInt8)]).length) <|
              lett ((([([91]:List UInt8),([93]:List UInt8),([60,60]:List UInt8),([62,62]:List UInt8)]).getD (IntKind.i64.wrap (a0.f0 - (6:Int))).toNat [])) fun z1 =>
              some (z1,(0:Int))
def object_node_L1 (F:Nat) (a0:S_Object):Nat→Int→Option (Out Unit Int)
  | 0,_=>none
  | n+1,v1 =>
    bif (decide (v1 < (a0.f3.length:Int))) then
      chk (0≤v1∧v1 < a0.f3.length) <|
      call (token_Print F (S_Token.mk (2:Int) 0 (a0.f3.getD v1.toNat []) 0 0)) fun y1 =>
      bif (y1.2 != (0:Int)) then
        some (.esc y1.2)
      else
        chk ((((decide (v1 > (0:Int))) == true) && true)=true→0≤(IntKind.i64.wrap (v1 - (1:Int)))∧(IntKind.i64.wrap (v1 - (1:Int))) < a0.f3.length) <|
        lett ((!(Op.bytesLess (a0.f3.getD (IntKind.i64.wrap (v1 - (1:Int))).toNat []) (a0.f3.getD v1.toNat [])))) fun z1 =>
        bif (bif (decide (v1 > (0:Int))) then z1 else false) then
          some (.esc (4:Int))
        else
          object_node_L1 F a0 n (IntKind.i64.wrap (v1+(1:Int)))
    else
      some (.go ())
/-- printworks/object.node -/
def object_node (F:Nat) (a0:S_Object) (a1:Int):Option Int :=
  lett ((bif (bif (a0.f0 == (1:Int)) then true else (a0.f0 == (2:Int))) then true else (a0.f0 == (5:Int)))) fun z2 =>
  bif (bif (decide (a0.f0 < (0:Int))) then true else (decide (a0.f0 > (7:Int)))) then
    some (14:Int)
  else
    bif (decide (a1 > (12:Int))) then
      some (15:Int)
    else
      call (bif (bif (a0.f1 != (0:Int)) then (!z2) else false) then
          some (bif (a0.f1 != (0:Int)) then (!z2) else false)
        else
          lett ((bif (!(a0.f2 == [])) then (!(bif (a0.f0 == (3:Int)) then true else (a0.f0 == (4:Int)))) else false)) fun z3 =>
          bif z3 then
            some z3
          else
            lett ((bif (decide ((a0.f4.length:Int) > (0:Int))) then (!(bif (a0.f0 == (6:Int)) then true else (a0.f0 == (7:Int)))) else false)) fun z4 =>
            some z4)
        fun v2 =>
      bif v2 then
        some (4:Int)
      else
        call (bif (bif (a0.f0 == (7:Int)) then ((a0.f3.length:Int) != (a0.f4.length:Int)) else false) then
            some (bif (a0.f0 == (7:Int)) then ((a0.f3.length:Int) != (a0.f4.length:Int)) else false)
          else
            some (bif (a0.f0 != (7:Int)) then (decide ((a0.f3.length:Int) > (0:Int))) else false))
          fun v3 =>
        bif v3 then
          some (4:Int)
        else
          lett ((bif (bif (a0.f0 == (1:Int)) then (a0.f1 != (0:Int)) else false) then (a0.f1 != (1:Int)) else false)) fun z5 =>
          bif z5 then
            some (3:Int)
          else
            bif (decide ((a0.f4.length:Int) > (256:Int))) then
              some (2:Int)
            else
              callE (object_node_L1 F a0 F (0:Int))
                (fun e=>some e) fun _ =>
              some (0:Int)
/-- internal/strconv.FormatBool -/
def internal_strconv_FormatBool (F:Nat) (a0:Bool):Option ((List UInt8)) :=
  bif a0 then
    some ([116,114,117,101]:List UInt8)
  else
    some ([102,97,108,115,101]:List UInt8)
/-- strconv.FormatBool -/
def strconv_FormatBool (F:Nat) (a0:Bool):Option ((List UInt8)) :=
  call (internal_strconv_FormatBool F a0) fun y1 =>
  some y1
def object_printer_nested_L0 (F:Nat) (a0:S_Object) (a1:Int) (rec_object_printer_add:S_Object→Int→(List S_Token)→Int→Option (Int×(List S_Token)×Int)):Nat→Int→(List S_Token)→Int→Option (Out ((List S_Token)×Int) (Int×(List S_Token)×Int))
  | 0,_,_,_=>none
  | n+1,v1,v2,v3 =>
    bif (decide (v1 < (a0.f4.length:Int))) then
      chk (0≤v1∧v1 < a0.f4.length) <|
      call (bif (a0.f0 == (7:Int)) then
          chk (0≤v1∧v1 < a0.f3.length) <|
          chk (v2.length+([(S_Token.mk (2:Int) 0 (a0.f3.getD v1.toNat []) 0 0)]).length≤4294967296) <|
          some (v2++([(S_Token.mk (2:Int) 0 (a0.f3.getD v1.toNat []) 0 0)]))
        else
          some v2)
        fun v4 =>
      call (rec_object_printer_add (a0.f4.getD v1.toNat (S_Object.mk 0 0 [] [] [])) (IntKind.i64.wrap (a1+(1:Int))) v4 v3) fun y1 =>
      bif (y1.1 != (0:Int)) then
        some (.esc (y1.1,y1.2.1,y1.2.2))
      else
        object_printer_nested_L0 F a0 a1 rec_object_printer_add n (IntKind.i64.wrap (v1+(1:Int))) y1.2.1 y1.2.2
    else
      some (.go (v2,v3))
/-- (*printworks/object.printer).nested -/
def object_printer_nested (F:Nat) (rec_object_printer_add:S_Object→Int→(List S_Token)→Int→Option (Int×(List S_Token)×Int)) (a0:S_Object) (a1:Int) (c2:List S_Token) (c3:Int):Option (Int×(List S_Token)×Int) :=
  call (bif (a0.f0 == (7:Int)) then
      some ((8:Int),(9:Int))
    else
      some ((6:Int),(7:Int)))
    fun (v5,v6) =>
  chk (c2.length+([(S_Token.mk v5 0 [] 0 0)]).length≤4294967296) <|
  callE (object_printer_nested_L0 F a0 a1 rec_object_printer_add F (0:Int) (c2++([(S_Token.mk v5 0 [] 0 0)])) c3)
    (fun e=>some e) fun (v7,v8) =>
  chk (v7.length+([(S_Token.mk v6 0 [] 0 0)]).length≤4294967296) <|
  some ((0:Int),(v7++([(S_Token.mk v6 0 [] 0 0)])),v8)
/-- (*printworks/object.printer).add -/
def object_printer_add_body (F:Nat) (rec_object_printer_add:S_Object→Int→(List S_Token)→Int→Option (Int×(List S_Token)×Int)) (a0:S_Object) (a1:Int) (c2:List S_Token) (c3:Int):Option (Int×(List S_Token)×Int) :=
  bif (decide ((IntKind.i64.wrap (c3+(1:Int))) > (4096:Int))) then
    some ((2:Int),c2,IntKind.i64.wrap (c3+(1:Int)))
  else
    call (object_node F a0 a1) fun y1 =>
    bif (y1 != (0:Int)) then
      some (y1,c2,IntKind.i64.wrap (c3+(1:Int)))
    else
      callE (bif (a0.f0 == (0:Int)) then
          some (.go (([110,117,108,108]:List UInt8),(5:Int),0))
        else
          bif (a0.f0 == (1:Int)) then
            call (strconv_FormatBool F (a0.f1 == (1:Int))) fun y2 =>
            some (.go (y2,(5:Int),0))
          else
            bif (a0.f0 == (2:Int)) then
              some (.go ([],(1:Int),a0.f1))
            else
              bif (a0.f0 == (3:Int)) then
                some (.go (a0.f2,(2:Int),0))
              else
                bif (a0.f0 == (4:Int)) then
                  some (.go (a0.f2,(3:Int),0))
                else
                  bif (a0.f0 == (5:Int)) then
                    some (.go ([],(4:Int),a0.f1))
                  else
                    call (object_printer_nested F rec_object_printer_add a0 a1 c2 (IntKind.i64.wrap (c3+(1:Int)))) fun y3 =>
                    some (.esc (y3.1,y3.2.1,y3.2.2)))
        (fun e=>some e) fun (v1,v2,v3) =>
      chk (c2.length+([(S_Token.mk v2 v3 v1 0 0)]).length≤4294967296) <|
      call (token_Print F (S_Token.mk v2 v3 v1 0 0)) fun y4 =>
      some (y4.2,(c2++([(S_Token.mk v2 v3 v1 0 0)])),IntKind.i64.wrap (c3+(1:Int)))
def object_printer_add_fuel (F:Nat):Nat→S_Object→Int→(List S_Token)→Int→Option (Int×(List S_Token)×Int)
  | 0=>fun _ _ _ _=>none
  | n+1=>object_printer_add_body F (object_printer_add_fuel F n)
def object_printer_add (F:Nat) (a0:S_Object) (a1:Int) (c2:List S_Token) (c3:Int):Option (Int×(List S_Token)×Int):=object_printer_add_fuel F F a0 a1 c2 c3
/-- printworks/token.white -/
def token_white (F:Nat) (a0:Int):Option Bool :=
  some (bif (bif (a0 == (32:Int)) then true else (a0 == (9:Int))) then true else (a0 == (10:Int)))
/-- printworks/token.delimiter -/
def token_delimiter (F:Nat) (a0:Int):Option Bool :=
  lett ((decide ((Lib.indexByte ([40,41,60,62,91,93,47,64,37]:List UInt8) a0.toNat.toUInt8) ≥ (0:Int)))) fun z1 =>
  some z1
/-- printworks/token.regular -/
def token_regular (F:Nat) (a0:Int):Option Bool :=
  call (token_white F a0) fun y1 =>
  call ((bif (((!y1) == true) && true) then token_delimiter F a0 else some false)) fun y2 =>
  some (bif (!y1) then (!y2) else false)
/-- (*strings.Builder).Len -/
def strings_Builder_Len (F:Nat) (c0:List UInt8):Option (Int×(List UInt8)) :=
  some ((c0.length:Int),c0)
def token_Join_L0 (F:Nat) (a0:List S_Token):Nat→(List UInt8)→Bool→Int→Option (Out ((List UInt8)) ((List UInt8)×Int))
  | 0,_,_,_=>none
  | n+1,v1,v2,v3 =>
    bif (decide (v3 < (a0.length:Int))) then
      chk (0≤v3∧v3 < a0.length) <|
      call (token_Print F (a0.getD v3.toNat (S_Token.mk 0 0 [] 0 0))) fun y1 =>
      bif (y1.2 != (0:Int)) then
        some (.esc ([],y1.2))
      else
        call (chk (((v2 == true) && true)=true→0≤(0:Int)∧(0:Int) < y1.1.length) <|
          call ((bif ((v2 == true) && true) then token_regular F ((y1.1.getD (0:Int).toNat 0).toNat:Int) else some false)) fun y2 =>
          bif (bif v2 then y2 else false) then
            call (strings_Builder_WriteByte F (32:Int) v1) fun y3 =>
            some y3.2
          else
            some v1)
          fun v4 =>
        call (strings_Builder_WriteString F y1.1 v4) fun y4 =>
        call (strings_Builder_Len F y4.2.2) fun y5 =>
        bif (decide (y5.1 > (8192:Int))) then
          some (.esc ([],(2:Int)))
        else
          chk (0≤(IntKind.i64.wrap ((y1.1.length:Int) - (1:Int)))∧(IntKind.i64.wrap ((y1.1.length:Int) - (1:Int))) < y1.1.length) <|
          call (token_regular F ((y1.1.getD (IntKind.i64.wrap ((y1.1.length:Int) - (1:Int))).toNat 0).toNat:Int)) fun y6 =>
          token_Join_L0 F a0 n y5.2 y6 (IntKind.i64.wrap (v3+(1:Int)))
    else
      some (.go v1)
/-- printworks/token.Join -/
def token_Join (F:Nat) (a0:List S_Token):Option ((List UInt8)×Int) :=
  callE (token_Join_L0 F a0 F [] false (0:Int))
    (fun e=>some e) fun v5 =>
  chk (v5.length≤9223372036854775807) <|
  some (v5,(0:Int))
/-- printworks/object.Print -/
def object_Print (F:Nat) (a0:S_Object):Option ((List UInt8)×Int) :=
  call (object_printer_add F a0 (1:Int) [] 0) fun y1 =>
  bif (y1.1 != (0:Int)) then
    some ([],y1.1)
  else
    call (token_Join F y1.2.1) fun y2 =>
    some (y2.1,y2.2)
/-- printworks/object.Check -/
def object_Check (F:Nat) (a0:S_Object):Option Int :=
  call (object_Print F a0) fun y1 =>
  some y1.2
/-- printworks/ticket.name -/
def ticket_name (F:Nat) (a0:List UInt8):Option Bool :=
  call (token_Print F (S_Token.mk (2:Int) 0 a0 0 0)) fun y1 =>
  some (y1.2 == (0:Int))
def slices_Equal_string_L0 (F:Nat) (a0:List (List UInt8)) (a1:List (List UInt8)):Nat→Int→Option (Out Unit Bool)
  | 0,_=>none
  | n+1,v1 =>
    bif (decide (v1 < (a0.length:Int))) then
      chk (0≤v1∧v1 < a0.length) <|
      chk (0≤v1∧v1 < a1.length) <|
      bif (!((a0.getD v1.toNat []) == (a1.getD v1.toNat []))) then
        some (.esc false)
      else
        slices_Equal_string_L0 F a0 a1 n (IntKind.i64.wrap (v1+(1:Int)))
    else
      some (.go ())
/-- slices.Equal[[]string,string] -/
def slices_Equal_string (F:Nat) (a0:List (List UInt8)) (a1:List (List UInt8)):Option Bool :=
  bif ((a0.length:Int) != (a1.length:Int)) then
    some false
  else
    callE (slices_Equal_string_L0 F a0 a1 F (0:Int))
      (fun e=>some e) fun _ =>
    some true
def slices_EqualFunc_Object_L0 (F:Nat) (a0:List S_Object) (a1:List S_Object) (rec_object_Same:S_Object→S_Object→Option Bool):Nat→Int→Option (Out Unit Bool)
  | 0,_=>none
  | n+1,v1 =>
    bif (decide (v1 < (a0.length:Int))) then
      chk (0≤v1∧v1 < a0.length) <|
      chk (0≤v1∧v1 < a1.length) <|
      call (rec_object_Same (a0.getD v1.toNat (S_Object.mk 0 0 [] [] [])) (a1.getD v1.toNat (S_Object.mk 0 0 [] [] []))) fun y1 =>
      bif (!y1) then
        some (.esc false)
      else
        slices_EqualFunc_Object_L0 F a0 a1 rec_object_Same n (IntKind.i64.wrap (v1+(1:Int)))
    else
      some (.go ())
/-- slices.EqualFunc[[]printworks/api.Object,[]printworks/api.Object,printworks/api.Object,printworks/api.Object] -/
def slices_EqualFunc_Object (F:Nat) (rec_object_Same:S_Object→S_Object→Option Bool) (a0:List S_Object) (a1:List S_Object):Option Bool :=
  bif ((a0.length:Int) != (a1.length:Int)) then
    some false
  else
    callE (slices_EqualFunc_Object_L0 F a0 a1 rec_object_Same F (0:Int))
      (fun e=>some e) fun _ =>
    some true
/-- printworks/object.Same -/
def object_Same_body (F:Nat) (rec_object_Same:S_Object→S_Object→Option Bool) (a0:S_Object) (a1:S_Object):Option Bool :=
  call ((bif (((bif (bif (a0.f0 == a1.f0) then (a0.f1 == a1.f1) else false) then (a0.f2 == a1.f2) else false) == true) && true) then slices_Equal_string F a0.f3 a1.f3 else some false)) fun y1 =>
  lett ((bif (bif (bif (a0.f0 == a1.f0) then (a0.f1 == a1.f1) else false) then (a0.f2 == a1.f2) else false) then y1 else false)) fun z1 =>
  call ((bif ((z1 == true) && true) then slices_EqualFunc_Object F rec_object_Same a0.f4 a1.f4 else some false)) fun y2 =>
  some (bif z1 then y2 else false)
def object_Same_fuel (F:Nat):Nat→S_Object→S_Object→Option Bool
  | 0=>fun _ _=>none
  | n+1=>object_Same_body F (object_Same_fuel F n)
def object_Same (F:Nat) (a0:S_Object) (a1:S_Object):Option Bool:=object_Same_fuel F F a0 a1
def slices_Index_string_L0 (F:Nat) (a0:List (List UInt8)) (a1:List UInt8):Nat→Int→Option (Out Unit Int)
  | 0,_=>none
  | n+1,v1 =>
    bif (decide (v1 < (a0.length:Int))) then
      chk (0≤v1∧v1 < a0.length) <|
      bif (a1 == (a0.getD v1.toNat [])) then
        some (.esc v1)
      else
        slices_Index_string_L0 F a0 a1 n (IntKind.i64.wrap (v1+(1:Int)))
    else
      some (.go ())
/-- slices.Index[[]string,string] -/
def slices_Index_string (F:Nat) (a0:List (List UInt8)) (a1:List UInt8):Option Int :=
  callE (slices_Index_string_L0 F a0 a1 F (0:Int))
    (fun e=>some e) fun _ =>
  some (-1:Int)
/-- slices.Contains[[]string,string] -/
def slices_Contains_string (F:Nat) (a0:List (List UInt8)) (a1:List UInt8):Option Bool :=
  call (slices_Index_string F a0 a1) fun y1 =>
  some (decide (y1 ≥ (0:Int)))
def ticket_limits_L1 (F:Nat) (a0:S_TicketField):Nat→Int→Option (Out Unit Int)
  | 0,_=>none
  | n+1,v1 =>
    bif (decide (v1 < (a0.f4.length:Int))) then
      chk (0≤v1∧v1 < a0.f4.length) <|
      call (ticket_name F (a0.f4.getD v1.toNat [])) fun y1 =>
      bif (!y1) then
        some (.esc (6:Int))
      else
        chk (0≤(0:Int)∧(0:Int)≤v1∧v1≤(a0.f4.length:Int)) <|
        call (slices_Contains_string F ((a0.f4.drop (0:Int).toNat).take (v1.toNat - (0:Int).toNat)) (a0.f4.getD v1.toNat [])) fun y2 =>
        bif y2 then
          some (.esc (7:Int))
        else
          ticket_limits_L1 F a0 n (IntKind.i64.wrap (v1+(1:Int)))
    else
      some (.go ())
/-- printworks/ticket.limits -/
def ticket_limits (F:Nat) (a0:S_TicketField):Option Int :=
  lett ((bif (bif (a0.f1 == (0:Int)) then true else (a0.f1 == (1:Int))) then true else (a0.f1 == (3:Int)))) fun z1 =>
  lett (((mpGet [((0:Int),(2147483647:Int)),((1:Int),(128:Int)),((3:Int),(16:Int))] a0.f1).getD 0)) fun z2 =>
  call (bif (bif (!z1) then (bif (a0.f2 != (0:Int)) then true else (a0.f3 != (0:Int))) else false) then
      some (bif (!z1) then (bif (a0.f2 != (0:Int)) then true else (a0.f3 != (0:Int))) else false)
    else
      bif (bif (a0.f1 != (2:Int)) then (decide ((a0.f4.length:Int) > (0:Int))) else false) then
        some (bif (a0.f1 != (2:Int)) then (decide ((a0.f4.length:Int) > (0:Int))) else false)
      else
        lett ((bif (!(bif (a0.f1 == (3:Int)) then true else (a0.f1 == (4:Int)))) then (decide ((a0.f5.length:Int) > (0:Int))) else false)) fun z3 =>
        some z3)
    fun v2 =>
  bif v2 then
    some (4:Int)
  else
    bif (bif (a0.f1 == (3:Int)) then ((a0.f5.length:Int) != (1:Int)) else false) then
      some (4:Int)
    else
      call (bif (bif z1 then (bif (decide (a0.f2 > a0.f3)) then true else (decide (a0.f3 > z2))) else false) then
          some (bif z1 then (bif (decide (a0.f2 > a0.f3)) then true else (decide (a0.f3 > z2))) else false)
        else
          bif (bif (a0.f1 == (0:Int)) then (decide (a0.f2 < (IntKind.i64.wrap (0 - z2)))) else false) then
            some (bif (a0.f1 == (0:Int)) then (decide (a0.f2 < (IntKind.i64.wrap (0 - z2)))) else false)
          else
            some (bif (a0.f1 != (0:Int)) then (decide (a0.f2 < (0:Int))) else false))
        fun v3 =>
      bif v3 then
        some (3:Int)
      else
        bif (bif (a0.f1 == (2:Int)) then ((a0.f4.length:Int) == (0:Int)) else false) then
          some (8:Int)
        else
          bif (decide ((a0.f4.length:Int) > (16:Int))) then
            some (2:Int)
          else
            callE (ticket_limits_L1 F a0 F (0:Int))
              (fun e=>some e) fun _ =>
            some (0:Int)
/-- slices.Clone[[]string,string] -/
def slices_Clone_string (F:Nat) (a0:List (List UInt8)):Option ((List (List UInt8))) :=
  chk (([]:List (List UInt8)).length+a0.length≤4294967296) <|
  some (([]:List (List UInt8))++a0)
/-- printworks/ticket.findings$1 -/
def ticket_findings_c1 (F:Nat) (a0:Int) (c1:List (List UInt8)):Option ((List S_TicketFinding)×(List (List UInt8))) :=
  call (slices_Clone_string F c1) fun y1 =>
  some ([(S_TicketFinding.mk y1 a0)],c1)
/-- printworks/ticket.record$1 -/
def ticket_record_c1 (F:Nat) (a0:List UInt8) (c1:List (List UInt8)):Option ((List (List UInt8))×(List (List UInt8))) :=
  call (slices_Clone_string F c1) fun y1 =>
  chk (y1.length+([a0]).length≤4294967296) <|
  some ((y1++([a0])),c1)
def ticket_record_v1_L0 (F:Nat) (a0:S_TicketField) (a1:S_Object) (rec_ticket_findings:S_TicketField→S_Object→(List (List UInt8))→Option ((List S_TicketFinding))):Nat→(List (List UInt8))→(List S_TicketFinding)→Int→Int→Option ((List S_TicketFinding))
  | 0,_,_,_,_=>none
  | n+1,v1,v2,v3,v4 =>
    bif (bif (decide (v3 < (a0.f5.length:Int))) then true else (decide (v4 < (a1.f3.length:Int)))) then
      chk ((((decide (v3 < (a0.f5.length:Int))) == true) && (((v4 == (a1.f3.length:Int)) == false) && true))=true→0≤v3∧v3 < a0.f5.length) <|
      chk ((((decide (v3 < (a0.f5.length:Int))) == true) && (((v4 == (a1.f3.length:Int)) == false) && true))=true→0≤v4∧v4 < a1.f3.length) <|
      lett ((Op.bytesLess ((a0.f5.getD v3.toNat (S_TicketField.mk [] 0 0 0 [] [] false (S_Object.mk 0 0 [] [] []))).f0) (a1.f3.getD v4.toNat []))) fun z1 =>
      lett ((bif (v4 == (a1.f3.length:Int)) then true else (bif (decide (v3 < (a0.f5.length:Int))) then z1 else false))) fun z2 =>
      bif z2 then
        call (chk (0≤v3∧v3 < a0.f5.length) <|
          bif (!((a0.f5.getD v3.toNat (S_TicketField.mk [] 0 0 0 [] [] false (S_Object.mk 0 0 [] [] []))).f6)) then
            chk (0≤v3∧v3 < a0.f5.length) <|
            call (ticket_record_c1 F ((a0.f5.getD v3.toNat (S_TicketField.mk [] 0 0 0 [] [] false (S_Object.mk 0 0 [] [] []))).f0) v1) fun y1 =>
            chk (v2.length+([(S_TicketFinding.mk y1.1 (8:Int))]).length≤4294967296) <|
            some (y1.2,(v2++([(S_TicketFinding.mk y1.1 (8:Int))])))
          else
            some (v1,v2))
          fun (v5,v6) =>
        ticket_record_v1_L0 F a0 a1 rec_ticket_findings n v5 v6 (IntKind.i64.wrap (v3+(1:Int))) v4
      else
        chk ((((v3 == (a0.f5.length:Int)) == false) && true)=true→0≤v4∧v4 < a1.f3.length) <|
        chk ((((v3 == (a0.f5.length:Int)) == false) && true)=true→0≤v3∧v3 < a0.f5.length) <|
        lett ((Op.bytesLess (a1.f3.getD v4.toNat []) ((a0.f5.getD v3.toNat (S_TicketField.mk [] 0 0 0 [] [] false (S_Object.mk 0 0 [] [] []))).f0))) fun z3 =>
        bif (bif (v3 == (a0.f5.length:Int)) then true else z3) then
          chk (0≤v4∧v4 < a1.f3.length) <|
          call (ticket_record_c1 F (a1.f3.getD v4.toNat []) v1) fun y2 =>
          chk (v2.length+([(S_TicketFinding.mk y2.1 (6:Int))]).length≤4294967296) <|
          ticket_record_v1_L0 F a0 a1 rec_ticket_findings n y2.2 (v2++([(S_TicketFinding.mk y2.1 (6:Int))])) v3 (IntKind.i64.wrap (v4+(1:Int)))
        else
          chk (0≤v3∧v3 < a0.f5.length) <|
          chk (0≤v4∧v4 < a1.f4.length) <|
          chk (0≤v4∧v4 < a1.f3.length) <|
          call (ticket_record_c1 F (a1.f3.getD v4.toNat []) v1) fun y3 =>
          call (rec_ticket_findings (a0.f5.getD v3.toNat (S_TicketField.mk [] 0 0 0 [] [] false (S_Object.mk 0 0 [] [] []))) (a1.f4.getD v4.toNat (S_Object.mk 0 0 [] [] [])) y3.1) fun y4 =>
          chk (v2.length+y4.length≤4294967296) <|
          ticket_record_v1_L0 F a0 a1 rec_ticket_findings n y3.2 (v2++y4) (IntKind.i64.wrap (v3+(1:Int))) (IntKind.i64.wrap (v4+(1:Int)))
    else
      some v2
/-- printworks/ticket.record -/
def ticket_record_v1 (F:Nat) (rec_ticket_findings:S_TicketField→S_Object→(List (List UInt8))→Option ((List S_TicketFinding))) (a0:S_TicketField) (a1:S_Object) (a2:List (List UInt8)):Option ((List S_TicketFinding)) :=
  call (ticket_record_v1_L0 F a0 a1 rec_ticket_findings F a2 [] (0:Int) (0:Int))
    fun v7 =>
  some v7
def ticket_findings_L1 (F:Nat) (a0:S_TicketField) (a1:S_Object) (a2:List (List UInt8)) (rec_ticket_findings:S_TicketField→S_Object→(List (List UInt8))→Option ((List S_TicketFinding))):Nat→(List S_TicketFinding)→Int→Option ((List S_TicketFinding))
  | 0,_,_=>none
  | n+1,v1,v2 =>
    bif (decide (v2 < (a1.f4.length:Int))) then
      chk (0≤v2∧v2 < a1.f4.length) <|
      chk (0≤(0:Int)∧(0:Int) < a0.f5.length) <|
      call (slices_Clone_string F a2) fun y1 =>
      chk (-9223372036854775808≤v2∧v2≤9223372036854775807) <|
      chk (y1.length+([(Lib.itoa v2)]).length≤4294967296) <|
      call (rec_ticket_findings (a0.f5.getD (0:Int).toNat (S_TicketField.mk [] 0 0 0 [] [] false (S_Object.mk 0 0 [] [] []))) (a1.f4.getD v2.toNat (S_Object.mk 0 0 [] [] [])) (y1++([(Lib.itoa v2)]))) fun y2 =>
      chk (v1.length+y2.length≤4294967296) <|
      ticket_findings_L1 F a0 a1 a2 rec_ticket_findings n (v1++y2) (IntKind.i64.wrap (v2+(1:Int)))
    else
      some v1
/-- printworks/ticket.findings -/
def ticket_findings_body (F:Nat) (rec_ticket_findings:S_TicketField→S_Object→(List (List UInt8))→Option ((List S_TicketFinding))) (a0:S_TicketField) (a1:S_Object) (a2:List (List UInt8)):Option ((List S_TicketFinding)) :=
  lett (((mpGet [((0:Int),a1.f1),((1:Int),(a1.f2.length:Int)),((3:Int),(a1.f4.length:Int))] a0.f1).getD 0)) fun z1 =>
  lett ((mpGet [((0:Int),a1.f1),((1:Int),(a1.f2.length:Int)),((3:Int),(a1.f4.length:Int))] a0.f1).isSome) fun z2 =>
  chk (0≤a0.f1∧a0.f1 < ([(2:Int),(4:Int),(3:Int),(6:Int),(7:Int)]).length) <|
  bif (a1.f0 != (([(2:Int),(4:Int),(3:Int),(6:Int),(7:Int)]).getD a0.f1.toNat 0)) then
    call (ticket_findings_c1 F (14:Int) a2) fun y3 =>
    some y3.1
  else
    bif (bif z2 then (bif (decide (z1 < a0.f2)) then true else (decide (z1 > a0.f3))) else false) then
      call (ticket_findings_c1 F (3:Int) a2) fun y4 =>
      some y4.1
    else
      call ((bif (((a0.f1 == (2:Int)) == true) && true) then slices_Contains_string F a0.f4 a1.f2 else some false)) fun y5 =>
      bif (bif (a0.f1 == (2:Int)) then (!y5) else false) then
        call (ticket_findings_c1 F (20:Int) a2) fun y6 =>
        some y6.1
      else
        bif (a0.f1 == (4:Int)) then
          call (ticket_record_v1 F rec_ticket_findings a0 a1 a2) fun y7 =>
          some y7
        else
          call (bif (a0.f1 == (3:Int)) then
              call (ticket_findings_L1 F a0 a1 a2 rec_ticket_findings F [] (0:Int))
                fun v3 =>
              some v3
            else
              some [])
            fun v4 =>
          some v4
def ticket_findings_fuel (F:Nat):Nat→S_TicketField→S_Object→(List (List UInt8))→Option ((List S_TicketFinding))
  | 0=>fun _ _ _=>none
  | n+1=>ticket_findings_body F (ticket_findings_fuel F n)
def ticket_findings (F:Nat) (a0:S_TicketField) (a1:S_Object) (a2:List (List UInt8)):Option ((List S_TicketFinding)):=ticket_findings_fuel F F a0 a1 a2
def ticket_checker_field_L1 (F:Nat) (a0:S_TicketField) (a1:Int) (rec_ticket_checker_field:S_TicketField→Int→Bool→Int→Option (Int×Int)):Nat→Int→Int→Option (Out Int (Int×Int))
  | 0,_,_=>none
  | n+1,v1,v2 =>
    bif (decide (v1 < (a0.f5.length:Int))) then
      chk (0≤v1∧v1 < a0.f5.length) <|
      call (rec_ticket_checker_field (a0.f5.getD v1.toNat (S_TicketField.mk [] 0 0 0 [] [] false (S_Object.mk 0 0 [] [] []))) (IntKind.i64.wrap (a1+(1:Int))) (a0.f1 == (4:Int)) v2) fun y1 =>
      bif (y1.1 != (0:Int)) then
        some (.esc (y1.1,y1.2))
      else
        chk ((((decide (v1 > (0:Int))) == true) && true)=true→0≤(IntKind.i64.wrap (v1 - (1:Int)))∧(IntKind.i64.wrap (v1 - (1:Int))) < a0.f5.length) <|
        lett ((a0.f5.getD (IntKind.i64.wrap (v1 - (1:Int))).toNat (S_TicketField.mk [] 0 0 0 [] [] false (S_Object.mk 0 0 [] [] []))).f0) fun z1 =>
        lett ((!(Op.bytesLess z1 ((a0.f5.getD v1.toNat (S_TicketField.mk [] 0 0 0 [] [] false (S_Object.mk 0 0 [] [] []))).f0)))) fun z2 =>
        bif (bif (decide (v1 > (0:Int))) then z2 else false) then
          some (.esc ((18:Int),y1.2))
        else
          ticket_checker_field_L1 F a0 a1 rec_ticket_checker_field n (IntKind.i64.wrap (v1+(1:Int))) y1.2
    else
      some (.go v2)
/-- (*printworks/ticket.checker).field -/
def ticket_checker_field_body (F:Nat) (rec_ticket_checker_field:S_TicketField→Int→Bool→Int→Option (Int×Int)) (a0:S_TicketField) (a1:Int) (a2:Bool) (c3:Int):Option (Int×Int) :=
  bif (decide ((IntKind.i64.wrap (c3+(1:Int))) > (64:Int))) then
    some ((2:Int),IntKind.i64.wrap (c3+(1:Int)))
  else
    bif (decide (a1 > (5:Int))) then
      some ((15:Int),IntKind.i64.wrap (c3+(1:Int)))
    else
      call (object_Check F a0.f7) fun y2 =>
      bif (y2 != (0:Int)) then
        some (y2,IntKind.i64.wrap (c3+(1:Int)))
      else
        bif (bif (decide (a0.f1 < (0:Int))) then true else (decide (a0.f1 > (4:Int)))) then
          some ((14:Int),IntKind.i64.wrap (c3+(1:Int)))
        else
          call ((bif ((a2 == true) && true) then ticket_name F a0.f0 else some false)) fun y3 =>
          bif (bif a2 then (!y3) else false) then
            some ((6:Int),IntKind.i64.wrap (c3+(1:Int)))
          else
            call (bif (bif (!a2) then (bif (!(a0.f0 == [])) then true else a0.f6) else false) then
                some (bif (!a2) then (bif (!(a0.f0 == [])) then true else a0.f6) else false)
              else
                call ((bif (((!a0.f6) == true) && true) then object_Same F a0.f7 (S_Object.mk 0 0 [] [] []) else some false)) fun y4 =>
                some (bif (!a0.f6) then (!y4) else false))
              fun v3 =>
            bif v3 then
              some ((4:Int),IntKind.i64.wrap (c3+(1:Int)))
            else
              call (ticket_limits F a0) fun y5 =>
              bif (y5 != (0:Int)) then
                some (y5,IntKind.i64.wrap (c3+(1:Int)))
              else
                callE (ticket_checker_field_L1 F a0 a1 rec_ticket_checker_field F (0:Int) (IntKind.i64.wrap (c3+(1:Int))))
                  (fun e=>some e) fun v4 =>
                call ((bif (((a0.f7.f0 != (0:Int)) == true) && true) then ticket_findings F a0 a0.f7 [] else some [])) fun y6 =>
                bif (bif (a0.f7.f0 != (0:Int)) then (decide ((y6.length:Int) > (0:Int))) else false) then
                  some ((20:Int),v4)
                else
                  some ((0:Int),v4)
def ticket_checker_field_fuel (F:Nat):Nat→S_TicketField→Int→Bool→Int→Option (Int×Int)
  | 0=>fun _ _ _ _=>none
  | n+1=>ticket_checker_field_body F (ticket_checker_field_fuel F n)
def ticket_checker_field (F:Nat) (a0:S_TicketField) (a1:Int) (a2:Bool) (c3:Int):Option (Int×Int):=ticket_checker_field_fuel F F a0 a1 a2 c3
/-- printworks/ticket.printed -/
def ticket_printed (F:Nat) (a0:List UInt8):Option Int :=
  call (token_Print F (S_Token.mk (2:Int) 0 a0 0 0)) fun y1 =>
  some (y1.1.length:Int)
def ticket_longest_L1 (F:Nat) (a0:S_TicketField):Nat→Int→Int→Option Int
  | 0,_,_=>none
  | n+1,v1,v2 =>
    bif (decide (v2 < (a0.f4.length:Int))) then
      chk (0≤v2∧v2 < a0.f4.length) <|
      call (ticket_printed F (a0.f4.getD v2.toNat [])) fun y1 =>
      ticket_longest_L1 F a0 n (if v1 < y1 then y1 else v1) (IntKind.i64.wrap (v2+(1:Int)))
    else
      some v1
def ticket_longest_L3 (F:Nat) (a0:S_TicketField) (rec_ticket_longest:S_TicketField→Option Int):Nat→Int→Int→Option Int
  | 0,_,_=>none
  | n+1,v3,v4 =>
    bif (decide (v4 < (a0.f5.length:Int))) then
      chk (0≤v4∧v4 < a0.f5.length) <|
      call (ticket_printed F ((a0.f5.getD v4.toNat (S_TicketField.mk [] 0 0 0 [] [] false (S_Object.mk 0 0 [] [] []))).f0)) fun y2 =>
      call (rec_ticket_longest (a0.f5.getD v4.toNat (S_TicketField.mk [] 0 0 0 [] [] false (S_Object.mk 0 0 [] [] [])))) fun y3 =>
      ticket_longest_L3 F a0 rec_ticket_longest n (IntKind.i64.wrap (v3+(IntKind.i64.wrap ((IntKind.i64.wrap (y2+y3))+(2:Int))))) (IntKind.i64.wrap (v4+(1:Int)))
    else
      some v3
/-- printworks/ticket.longest -/
def ticket_longest_body (F:Nat) (rec_ticket_longest:S_TicketField→Option Int) (a0:S_TicketField):Option Int :=
  bif (a0.f1 == (0:Int)) then
    some (12:Int)
  else
    bif (a0.f1 == (1:Int)) then
      some (IntKind.i64.wrap ((2:Int)+(IntKind.i64.wrap ((4:Int) * a0.f3))))
    else
      bif (a0.f1 == (2:Int)) then
        call (ticket_longest_L1 F a0 F (0:Int) (0:Int))
          fun v5 =>
        some v5
      else
        bif (a0.f1 == (3:Int)) then
          chk (0≤(0:Int)∧(0:Int) < a0.f5.length) <|
          call (rec_ticket_longest (a0.f5.getD (0:Int).toNat (S_TicketField.mk [] 0 0 0 [] [] false (S_Object.mk 0 0 [] [] [])))) fun y4 =>
          some (IntKind.i64.wrap ((2:Int)+(IntKind.i64.wrap (a0.f3 * (IntKind.i64.wrap (y4+(1:Int)))))))
        else
          call (ticket_longest_L3 F a0 rec_ticket_longest F (0:Int) (0:Int))
            fun v6 =>
          some (IntKind.i64.wrap (v6+(4:Int)))
def ticket_longest_fuel (F:Nat):Nat→S_TicketField→Option Int
  | 0=>fun _=>none
  | n+1=>ticket_longest_body F (ticket_longest_fuel F n)
def ticket_longest (F:Nat) (a0:S_TicketField):Option Int:=ticket_longest_fuel F F a0
/-- printworks/ticket.Check -/
def ticket_Check (F:Nat) (a0:S_TicketField):Option Int :=
  call (ticket_checker_field F a0 (1:Int) false 0) fun y1 =>
  bif (y1.1 != (0:Int)) then
    some y1.1
  else
    bif (a0.f1 != (4:Int)) then
      some (14:Int)
    else
      call (ticket_longest F a0) fun y2 =>
      bif (decide (y2 > (8192:Int))) then
        some (2:Int)
      else
        some (0:Int)
/-- printworks/ticket.Validate -/
def ticket_Validate (F:Nat) (a0:S_TicketField) (a1:S_Object):Option ((List S_TicketFinding)×Int) :=
  call (ticket_Check F a0) fun y1 =>
  bif (y1 != (0:Int)) then
    some ([],y1)
  else
    call (object_Check F a1) fun y2 =>
    bif (y2 != (0:Int)) then
      some ([],y2)
    else
      call (ticket_findings F a0 a1 []) fun y3 =>
      some (y3,(0:Int))
/-- printworks/printworkslaw3.ticketFact -/
def law3_ticketFact (F:Nat)  : Option Bool :=
  call (law3_whole F (1:Int) (3:Int)) fun y1 =>
  call (ticket_Validate F y1 (S_Object.mk (7:Int) 0 [] ([([78]:List UInt8)]) ([(S_Object.mk (2:Int) (4:Int) [] [] [])]))) fun y2 =>
  chk ((((bif (y2.2 == (0:Int)) then ((y2.1.length:Int) == (1:Int)) else false) == true) && true)=true→0≤(0:Int)∧(0:Int) < y2.1.length) <|
  lett ((bif (bif (y2.2 == (0:Int)) then ((y2.1.length:Int) == (1:Int)) else false) then (((y2.1.getD (0:Int).toNat (S_TicketFinding.mk [] 0)).f1) == (3:Int)) else false)) fun z1 =>
  chk (((z1 == true) && true)=true→0≤(0:Int)∧(0:Int) < y2.1.length) <|
  call ((bif ((z1 == true) && true) then slices_Equal_string F ((y2.1.getD (0:Int).toNat (S_TicketFinding.mk [] 0)).f0) ([([78]:List UInt8)]) else some false)) fun y3 =>
  some (bif z1 then y3 else false)
/-- printworks/printworksref3.digit -/
def ref3_digit (F:Nat) (a0:Int):Option Bool :=
  some (bif (decide (a0 ≥ (48:Int))) then (decide (a0≤(57:Int))) else false)
/-- printworks/printworksref3.letter -/
def ref3_letter (F:Nat) (a0:Int):Option Bool :=
  lett ((bif (bif (decide (a0 ≥ (65:Int))) then (decide (a0≤(90:Int))) else false) then true else (bif (decide (a0 ≥ (97:Int))) then (decide (a0≤(122:Int))) else false))) fun z1 =>
  some z1
def ref3_wordError_L0 (F:Nat) (a0:List UInt8):Nat→Int→Option (Out Unit Int)
  | 0,_=>none
  | n+1,v1 =>
    bif (decide (v1 < (a0.length:Int))) then
      chk (0≤v1∧v1 < a0.length) <|
      call (ref3_letter F ((a0.getD v1.toNat 0).toNat:Int)) fun y1 =>
      chk ((((!y1) == true) && true)=true→0≤v1∧v1 < a0.length) <|
      call ((bif (((!y1) == true) && true) then ref3_digit F ((a0.getD v1.toNat 0).toNat:Int) else some false)) fun y2 =>
      chk ((((bif (!y1) then (!y2) else false) == true) && true)=true→0≤v1∧v1 < a0.length) <|
      lett ((bif (bif (!y1) then (!y2) else false) then (((a0.getD v1.toNat 0).toNat:Int) != (42:Int)) else false)) fun z1 =>
      chk (((z1 == true) && true)=true→0≤v1∧v1 < a0.length) <|
      chk ((((bif z1 then (((a0.getD v1.toNat 0).toNat:Int) != (95:Int)) else false) == true) && true)=true→0≤v1∧v1 < a0.length) <|
      lett ((bif (bif z1 then (((a0.getD v1.toNat 0).toNat:Int) != (95:Int)) else false) then (((a0.getD v1.toNat 0).toNat:Int) != (46:Int)) else false)) fun z2 =>
      bif z2 then
        some (.esc (5:Int))
      else
        ref3_wordError_L0 F a0 n (IntKind.i64.wrap (v1+(1:Int)))
    else
      some (.go ())
/-- printworks/printworksref3.wordError -/
def ref3_wordError (F:Nat) (a0:List UInt8):Option Int :=
  callE (ref3_wordError_L0 F a0 F (0:Int))
    (fun e=>some e) fun _ =>
  bif (decide ((a0.length:Int) > (31:Int))) then
    some (2:Int)
  else
    some (0:Int)
def ref3_Decimal_L0 (F:Nat)  : Nat→Int→(List UInt8)→Option ((List UInt8))
  | 0,_,_=>none
  | n+1,v1,v2 =>
    bif (v1 != (0:Int)) then
      call (bif (decide ((v1.tmod (10:Int)) < (0:Int))) then
          some (IntKind.i64.wrap (0 - (v1.tmod (10:Int))))
        else
          some (v1.tmod (10:Int)))
        fun v3 =>
      chk (0≤(IntKind.u8.wrap (IntKind.i64.wrap ((48:Int)+v3)))∧(IntKind.u8.wrap (IntKind.i64.wrap ((48:Int)+v3))) < 256) <|
      chk (([(UInt8.ofNat (IntKind.u8.wrap (IntKind.i64.wrap ((48:Int)+v3))).toNat)]).length+v2.length≤9223372036854775807) <|
      ref3_Decimal_L0 F n (IntKind.i64.wrap (v1.tdiv (10:Int))) (([(UInt8.ofNat (IntKind.u8.wrap (IntKind.i64.wrap ((48:Int)+v3))).toNat)])++v2)
    else
      some v2
/-- printworks/printworksref3.Decimal -/
def ref3_Decimal (F:Nat) (a0:Int):Option ((List UInt8)) :=
  bif (a0 == (0:Int)) then
    some ([48]:List UInt8)
  else
    call (ref3_Decimal_L0 F F a0 [])
      fun v4 =>
    bif (decide (a0 < (0:Int))) then
      chk (([45]:List UInt8).length+v4.length≤9223372036854775807) <|
      some (([45]:List UInt8)++v4)
    else
      some v4
def ref3_Spelled_L0 (F:Nat) (a0:S_Token):Nat→Bool→Int→Option Bool
  | 0,_,_=>none
  | n+1,v1,v2 =>
    bif (decide (v2 < (a0.f2.length:Int))) then
      chk (((v1 == false) && true)=true→0≤v2∧v2 < a0.f2.length) <|
      ref3_Spelled_L0 F a0 n (bif v1 then true else (((a0.f2.getD v2.toNat 0).toNat:Int) == (0:Int))) (IntKind.i64.wrap (v2+(1:Int)))
    else
      some v1
def ref3_Spelled_L3 (F:Nat) (a0:S_Token):Nat→(List UInt8)→Int→Option ((List UInt8))
  | 0,_,_=>none
  | n+1,v3,v4 =>
    bif (decide (v4 < (a0.f2.length:Int))) then
      call (chk (0≤v4∧v4 < a0.f2.length) <|
        chk (0≤(IntKind.u8.wrap (((a0.f2.getD v4.toNat 0).toNat:Int).tdiv (16:Int)))∧(IntKind.u8.wrap (((a0.f2.getD v4.toNat 0).toNat:Int).tdiv (16:Int))) < ([48,49,50,51,52,53,54,55,56,57,97,98,99,100,101,102]:List UInt8).length) <|
        lett (((([48,49,50,51,52,53,54,55,56,57,97,98,99,100,101,102]:List UInt8).getD (IntKind.u8.wrap (((a0.f2.getD v4.toNat 0).toNat:Int).tdiv (16:Int))).toNat 0).toNat:Int)) fun z1 =>
        chk (0≤(((a0.f2.getD v4.toNat 0).toNat:Int).tmod (16:Int))∧(((a0.f2.getD v4.toNat 0).toNat:Int).tmod (16:Int)) < ([48,49,50,51,52,53,54,55,56,57,97,98,99,100,101,102]:List UInt8).length) <|
        lett (((([48,49,50,51,52,53,54,55,56,57,97,98,99,100,101,102]:List UInt8).getD (((a0.f2.getD v4.toNat 0).toNat:Int).tmod (16:Int)).toNat 0).toNat:Int)) fun z2 =>
        chk (0≤z1∧z1 < 256) <|
        chk (0≤z2∧z2 < 256) <|
        call ((bif (((a0.f0 == (2:Int)) == true) && true) then ref3_letter F ((a0.f2.getD v4.toNat 0).toNat:Int) else some false)) fun y1 =>
        call ((bif ((y1 == false) && (((a0.f0 == (2:Int)) == true) && true)) then ref3_digit F ((a0.f2.getD v4.toNat 0).toNat:Int) else some false)) fun y2 =>
        lett ((bif (bif y1 then true else y2) then true else (((a0.f2.getD v4.toNat 0).toNat:Int) == (95:Int)))) fun z3 =>
        lett ((bif (bif z3 then true else (((a0.f2.getD v4.toNat 0).toNat:Int) == (45:Int))) then true else (((a0.f2.getD v4.toNat 0).toNat:Int) == (46:Int)))) fun z4 =>
        bif (bif (a0.f0 == (2:Int)) then z4 else false) then
          chk (0≤((a0.f2.getD v4.toNat 0).toNat:Int)∧((a0.f2.getD v4.toNat 0).toNat:Int) < 256) <|
          chk (v3.length+([(UInt8.ofNat ((a0.f2.getD v4.toNat 0).toNat:Int).toNat)]).length≤4294967296) <|
          some (v3++([(UInt8.ofNat ((a0.f2.getD v4.toNat 0).toNat:Int).toNat)]))
        else
          bif (a0.f0 == (2:Int)) then
            chk (v3.length+([(UInt8.ofNat (35:Int).toNat)]).length≤4294967296) <|
            chk ((v3++([(UInt8.ofNat (35:Int).toNat)])).length+([(UInt8.ofNat z1.toNat),(UInt8.ofNat z2.toNat)]).length≤4294967296) <|
            lett (((v3++([(UInt8.ofNat (35:Int).toNat)]))++([(UInt8.ofNat z1.toNat),(UInt8.ofNat z2.toNat)]))) fun l1 =>
            some l1
          else
            bif (((a0.f2.getD v4.toNat 0).toNat:Int) == (10:Int)) then
              chk (v3.length+([(UInt8.ofNat (92:Int).toNat),(UInt8.ofNat (110:Int).toNat)]).length≤4294967296) <|
              some (v3++([(UInt8.ofNat (92:Int).toNat),(UInt8.ofNat (110:Int).toNat)]))
            else
              bif (((a0.f2.getD v4.toNat 0).toNat:Int) == (9:Int)) then
                chk (v3.length+([(UInt8.ofNat (92:Int).toNat),(UInt8.ofNat (116:Int).toNat)]).length≤4294967296) <|
                some (v3++([(UInt8.ofNat (92:Int).toNat),(UInt8.ofNat (116:Int).toNat)]))
              else
                lett ((bif (((a0.f2.getD v4.toNat 0).toNat:Int) == (40:Int)) then true else (((a0.f2.getD v4.toNat 0).toNat:Int) == (41:Int)))) fun z5 =>
                bif (bif z5 then true else (((a0.f2.getD v4.toNat 0).toNat:Int) == (92:Int))) then
                  chk (0≤((a0.f2.getD v4.toNat 0).toNat:Int)∧((a0.f2.getD v4.toNat 0).toNat:Int) < 256) <|
                  chk (v3.length+([(UInt8.ofNat (92:Int).toNat),(UInt8.ofNat ((a0.f2.getD v4.toNat 0).toNat:Int).toNat)]).length≤4294967296) <|
                  lett ((v3++([(UInt8.ofNat (92:Int).toNat),(UInt8.ofNat ((a0.f2.getD v4.toNat 0).toNat:Int).toNat)]))) fun l2 =>
                  some l2
                else
                  lett ((bif (decide (((a0.f2.getD v4.toNat 0).toNat:Int) < (32:Int))) then true else (decide (((a0.f2.getD v4.toNat 0).toNat:Int) ≥ (126:Int))))) fun z6 =>
                  bif z6 then
                    chk (v3.length+([(UInt8.ofNat (92:Int).toNat),(UInt8.ofNat (120:Int).toNat)]).length≤4294967296) <|
                    chk ((v3++([(UInt8.ofNat (92:Int).toNat),(UInt8.ofNat (120:Int).toNat)])).length+([(UInt8.ofNat z1.toNat),(UInt8.ofNat z2.toNat)]).length≤4294967296) <|
                    lett (((v3++([(UInt8.ofNat (92:Int).toNat),(UInt8.ofNat (120:Int).toNat)]))++([(UInt8.ofNat z1.toNat),(UInt8.ofNat z2.toNat)]))) fun l3 =>
                    some l3
                  else
                    chk (0≤((a0.f2.getD v4.toNat 0).toNat:Int)∧((a0.f2.getD v4.toNat 0).toNat:Int) < 256) <|
                    chk (v3.length+([(UInt8.ofNat ((a0.f2.getD v4.toNat 0).toNat:Int).toNat)]).length≤4294967296) <|
                    some (v3++([(UInt8.ofNat ((a0.f2.getD v4.toNat 0).toNat:Int).toNat)])))
        fun v5 =>
      ref3_Spelled_L3 F a0 n v5 (IntKind.i64.wrap (v4+(1:Int)))
    else
      some v3
/-- printworks/printworksref3.Spelled -/
def ref3_Spelled (F:Nat) (a0:S_Token):Option ((List UInt8)×Int) :=
  lett ((bif (bif (a0.f0 == (2:Int)) then true else (a0.f0 == (3:Int))) then true else (a0.f0 == (5:Int)))) fun z7 =>
  bif (bif (decide (a0.f0 < (1:Int))) then true else (decide (a0.f0 > (9:Int)))) then
    some ([],(14:Int))
  else
    lett ((bif (!(bif (a0.f0 == (1:Int)) then true else (a0.f0 == (4:Int)))) then (a0.f1 != (0:Int)) else false)) fun z8 =>
    bif (bif z8 then true else (bif (!z7) then (!(a0.f2 == [])) else false)) then
      some ([],(4:Int))
    else
      callE (bif (a0.f0 == (2:Int)) then
          call (ref3_Spelled_L0 F a0 F (a0.f2 == []) (0:Int))
            fun v6 =>
          bif v6 then
            some (.esc ([],(4:Int)))
          else
            some (.go ())
        else
          some (.go ()))
        (fun e=>some e) fun _ =>
      lett ((bif (a0.f0 == (1:Int)) then (bif (decide (a0.f1 > (2147483647:Int))) then true else (decide (a0.f1 < (-2147483647:Int)))) else false)) fun z9 =>
      lett ((bif (a0.f0 == (4:Int)) then (bif (decide (a0.f1 > (255:Int))) then true else (decide (a0.f1 < (1:Int)))) else false)) fun z10 =>
      bif (bif z9 then true else z10) then
        some ([],(3:Int))
      else
        lett ((bif (bif (a0.f0 == (2:Int)) then (decide ((a0.f2.length:Int) > (31:Int))) else false) then true else (bif (a0.f0 == (3:Int)) then (decide ((a0.f2.length:Int) > (1024:Int))) else false))) fun z11 =>
        bif z11 then
          some ([],(2:Int))
        else
          bif (a0.f0 == (5:Int)) then
            chk ((((a0.f2 == []) == false) && true)=true→0≤(0:Int)∧(0:Int) < a0.f2.length) <|
            call ((bif (((a0.f2 == []) == false) && true) then ref3_digit F ((a0.f2.getD (0:Int).toNat 0).toNat:Int) else some false)) fun y3 =>
            call ((bif (((bif (a0.f2 == []) then true else y3) == false) && true) then ref3_wordError F a0.f2 else some 0)) fun y4 =>
            bif (bif (bif (a0.f2 == []) then true else y3) then true else (y4 == (5:Int))) then
              some ([],(4:Int))
            else
              call (ref3_wordError F a0.f2) fun y5 =>
              bif (y5 != (0:Int)) then
                some ([],y5)
              else
                some (a0.f2,(0:Int))
          else
            bif (a0.f0 == (1:Int)) then
              call (ref3_Decimal F a0.f1) fun y6 =>
              some (y6,(0:Int))
            else
              bif (a0.f0 == (4:Int)) then
                call (ref3_Decimal F a0.f1) fun y7 =>
                chk (([64]:List UInt8).length+y7.length≤9223372036854775807) <|
                some ((([64]:List UInt8)++y7),(0:Int))
              else
                bif (a0.f0 == (6:Int)) then
                  some (([91]:List UInt8),(0:Int))
                else
                  bif (a0.f0 == (7:Int)) then
                    some (([93]:List UInt8),(0:Int))
                  else
                    bif (a0.f0 == (8:Int)) then
                      some (([60,60]:List UInt8),(0:Int))
                    else
                      bif (a0.f0 == (9:Int)) then
                        some (([62,62]:List UInt8),(0:Int))
                      else
                        call (ref3_Spelled_L3 F a0 F [] (0:Int))
                          fun v7 =>
                        bif (a0.f0 == (2:Int)) then
                          chk (([47]:List UInt8).length+v7.length≤9223372036854775807) <|
                          some ((([47]:List UInt8)++v7),(0:Int))
                        else
                          chk (([40]:List UInt8).length+v7.length≤9223372036854775807) <|
                          chk ((([40]:List UInt8)++v7).length+([41]:List UInt8).length≤9223372036854775807) <|
                          some (((([40]:List UInt8)++v7)++([41]:List UInt8)),(0:Int))
def ref3_partError_L1 (F:Nat) (a0:S_Object):Nat→Int→Option (Out Unit Int)
  | 0,_=>none
  | n+1,v1 =>
    bif (decide (v1 < (a0.f3.length:Int))) then
      chk (0≤v1∧v1 < a0.f3.length) <|
      call (ref3_Spelled F (S_Token.mk (2:Int) 0 (a0.f3.getD v1.toNat []) 0 0)) fun y1 =>
      bif (y1.2 != (0:Int)) then
        some (.esc y1.2)
      else
        chk ((((decide (v1 > (0:Int))) == true) && true)=true→0≤(IntKind.i64.wrap (v1 - (1:Int)))∧(IntKind.i64.wrap (v1 - (1:Int))) < a0.f3.length) <|
        lett ((Op.bytesLess (a0.f3.getD v1.toNat []) (a0.f3.getD (IntKind.i64.wrap (v1 - (1:Int))).toNat []) || (a0.f3.getD v1.toNat []) == (a0.f3.getD (IntKind.i64.wrap (v1 - (1:Int))).toNat []))) fun z1 =>
        bif (bif (decide (v1 > (0:Int))) then z1 else false) then
          some (.esc (4:Int))
        else
          ref3_partError_L1 F a0 n (IntKind.i64.wrap (v1+(1:Int)))
    else
      some (.go ())
/-- printworks/printworksref3.partError -/
def ref3_partError (F:Nat) (a0:S_Object) (a1:Int):Option Int :=
  bif (bif (decide (a0.f0 < (0:Int))) then true else (decide (a0.f0 > (7:Int)))) then
    some (14:Int)
  else
    bif (decide (a1 > (12:Int))) then
      some (15:Int)
    else
      lett ((bif (bif (a0.f1 != (0:Int)) then (a0.f0 != (1:Int)) else false) then (a0.f0 != (2:Int)) else false)) fun z2 =>
      bif (bif z2 then (a0.f0 != (5:Int)) else false) then
        some (4:Int)
      else
        lett ((bif (bif (!(a0.f2 == [])) then (a0.f0 != (3:Int)) else false) then (a0.f0 != (4:Int)) else false)) fun z3 =>
        bif z3 then
          some (4:Int)
        else
          lett ((bif (bif (decide ((a0.f4.length:Int) > (0:Int))) then (a0.f0 != (6:Int)) else false) then (a0.f0 != (7:Int)) else false)) fun z4 =>
          bif z4 then
            some (4:Int)
          else
            lett ((bif (bif (a0.f0 == (7:Int)) then ((a0.f3.length:Int) != (a0.f4.length:Int)) else false) then true else (bif (a0.f0 != (7:Int)) then (decide ((a0.f3.length:Int) > (0:Int))) else false))) fun z5 =>
            bif z5 then
              some (4:Int)
            else
              lett ((bif (a0.f0 == (1:Int)) then (bif (decide (a0.f1 < (0:Int))) then true else (decide (a0.f1 > (1:Int)))) else false)) fun z6 =>
              bif z6 then
                some (3:Int)
              else
                bif (decide ((a0.f4.length:Int) > (256:Int))) then
                  some (2:Int)
                else
                  callE (ref3_partError_L1 F a0 F (0:Int))
                    (fun e=>some e) fun _ =>
                  some (0:Int)
def ref3_tokensOf_L0 (F:Nat) (a1:S_Object) (a2:Int) (rec_ref3_tokensOf:(List S_Token)→S_Object→Int→Int→Option ((List S_Token)×Int×Int)):Nat→(List S_Token)→Int→Int→Option (Out ((List S_Token)×Int) ((List S_Token)×Int×Int))
  | 0,_,_,_=>none
  | n+1,v1,v2,v3 =>
    bif (decide (v2 < (a1.f4.length:Int))) then
      chk (0≤v2∧v2 < a1.f4.length) <|
      call (bif (a1.f0 == (7:Int)) then
          chk (0≤v2∧v2 < a1.f3.length) <|
          chk (v1.length+([(S_Token.mk (2:Int) 0 (a1.f3.getD v2.toNat []) 0 0)]).length≤4294967296) <|
          some (v1++([(S_Token.mk (2:Int) 0 (a1.f3.getD v2.toNat []) 0 0)]))
        else
          some v1)
        fun v4 =>
      call (rec_ref3_tokensOf v4 (a1.f4.getD v2.toNat (S_Object.mk 0 0 [] [] [])) (IntKind.i64.wrap (a2+(1:Int))) v3) fun y1 =>
      bif (y1.2.1 != (0:Int)) then
        some (.esc ([],y1.2.1,y1.2.2))
      else
        ref3_tokensOf_L0 F a1 a2 rec_ref3_tokensOf n y1.1 (IntKind.i64.wrap (v2+(1:Int))) y1.2.2
    else
      some (.go (v1,v3))
/-- printworks/printworksref3.tokensOf -/
def ref3_tokensOf_body (F:Nat) (rec_ref3_tokensOf:(List S_Token)→S_Object→Int→Int→Option ((List S_Token)×Int×Int)) (a0:List S_Token) (a1:S_Object) (a2:Int) (c3:Int):Option ((List S_Token)×Int×Int) :=
  bif (decide ((IntKind.i64.wrap (c3+(1:Int))) > (4096:Int))) then
    some ([],(2:Int),IntKind.i64.wrap (c3+(1:Int)))
  else
    call (ref3_partError F a1 a2) fun y2 =>
    bif (y2 != (0:Int)) then
      some ([],y2,IntKind.i64.wrap (c3+(1:Int)))
    else
      chk (0≤a1.f0∧a1.f0 < ([(5:Int),(5:Int),(1:Int),(2:Int),(3:Int),(4:Int),(6:Int),(8:Int)]).length) <|
      lett ((([(5:Int),(5:Int),(1:Int),(2:Int),(3:Int),(4:Int),(6:Int),(8:Int)]).getD a1.f0.toNat 0)) fun z1 =>
      call (bif (a1.f0 == (0:Int)) then
          some ([110,117,108,108]:List UInt8)
        else
          some a1.f2)
        fun v5 =>
      call (bif (a1.f0 == (1:Int)) then
          chk (0≤a1.f1∧a1.f1 < ([([102,97,108,115,101]:List UInt8),([116,114,117,101]:List UInt8)]).length) <|
          lett ((([([102,97,108,115,101]:List UInt8),([116,114,117,101]:List UInt8)]).getD a1.f1.toNat [])) fun z2 =>
          some ((0:Int),z2)
        else
          some (a1.f1,v5))
        fun (v6,v7) =>
      call (ref3_Spelled F (S_Token.mk z1 v6 v7 0 0)) fun y3 =>
      bif (y3.2 != (0:Int)) then
        some ([],y3.2,IntKind.i64.wrap (c3+(1:Int)))
      else
        chk (a0.length+([(S_Token.mk z1 v6 v7 0 0)]).length≤4294967296) <|
        bif (decide (a1.f0 < (6:Int))) then
          some ((a0++([(S_Token.mk z1 v6 v7 0 0)])),(0:Int),IntKind.i64.wrap (c3+(1:Int)))
        else
          callE (ref3_tokensOf_L0 F a1 a2 rec_ref3_tokensOf F (a0++([(S_Token.mk z1 v6 v7 0 0)])) (0:Int) (IntKind.i64.wrap (c3+(1:Int))))
            (fun e=>some e) fun (v8,v9) =>
          chk (v8.length+([(S_Token.mk (IntKind.i64.wrap (z1+(1:Int))) 0 [] 0 0)]).length≤4294967296) <|
          some ((v8++([(S_Token.mk (IntKind.i64.wrap (z1+(1:Int))) 0 [] 0 0)])),(0:Int),v9)
def ref3_tokensOf_fuel (F:Nat):Nat→(List S_Token)→S_Object→Int→Int→Option ((List S_Token)×Int×Int)
  | 0=>fun _ _ _ _=>none
  | n+1=>ref3_tokensOf_body F (ref3_tokensOf_fuel F n)
def ref3_tokensOf (F:Nat) (a0:List S_Token) (a1:S_Object) (a2:Int) (c3:Int):Option ((List S_Token)×Int×Int):=ref3_tokensOf_fuel F F a0 a1 a2 c3
def ref3_Shown_L0 (F:Nat) (y1:(List S_Token)×Int×Int):Nat→(List UInt8)→Int→Option (Out ((List UInt8)) ((List UInt8)×Int))
  | 0,_,_=>none
  | n+1,v1,v2 =>
    bif (decide (v2 < (y1.1.length:Int))) then
      chk (0≤v2∧v2 < y1.1.length) <|
      call (ref3_Spelled F (y1.1.getD v2.toNat (S_Token.mk 0 0 [] 0 0))) fun y2 =>
      call (lett ((bif (((y1.1.getD v2.toNat (S_Token.mk 0 0 [] 0 0)).f0) == (1:Int)) then true else (((y1.1.getD v2.toNat (S_Token.mk 0 0 [] 0 0)).f0) == (5:Int)))) fun z1 =>
        chk ((((bif (decide (v2 > (0:Int))) then z1 else false) == true) && true)=true→0≤(IntKind.i64.wrap (v2 - (1:Int)))∧(IntKind.i64.wrap (v2 - (1:Int))) < y1.1.length) <|
        lett ((bif (bif (decide (v2 > (0:Int))) then z1 else false) then (((y1.1.getD (IntKind.i64.wrap (v2 - (1:Int))).toNat (S_Token.mk 0 0 [] 0 0)).f0) != (3:Int)) else false)) fun z2 =>
        chk (((z2 == true) && true)=true→0≤(IntKind.i64.wrap (v2 - (1:Int)))∧(IntKind.i64.wrap (v2 - (1:Int))) < y1.1.length) <|
        lett ((decide (((y1.1.getD (IntKind.i64.wrap (v2 - (1:Int))).toNat (S_Token.mk 0 0 [] 0 0)).f0) < (6:Int)))) fun z3 =>
        bif (bif z2 then z3 else false) then
          chk (v1.length+([(UInt8.ofNat (32:Int).toNat)]).length≤4294967296) <|
          some (v1++([(UInt8.ofNat (32:Int).toNat)]))
        else
          some v1)
        fun v3 =>
      chk (v3.length+y2.1.length≤4294967296) <|
      bif (decide (((v3++y2.1).length:Int) > (8192:Int))) then
        some (.esc ([],(2:Int)))
      else
        ref3_Shown_L0 F y1 n (v3++y2.1) (IntKind.i64.wrap (v2+(1:Int)))
    else
      some (.go v1)
/-- printworks/printworksref3.Shown -/
def ref3_Shown (F:Nat) (a0:S_Object):Option ((List UInt8)×Int) :=
  call (ref3_tokensOf F [] a0 (1:Int) (0:Int)) fun y1 =>
  bif (y1.2.1 != (0:Int)) then
    some ([],y1.2.1)
  else
    callE (ref3_Shown_L0 F y1 F [] (0:Int))
      (fun e=>some e) fun v4 =>
    some (v4,(0:Int))
/-- printworks/printworksref3.ticketName -/
def ref3_ticketName (F:Nat) (a0:List UInt8):Option Bool :=
  call (ref3_Spelled F (S_Token.mk (2:Int) 0 a0 0 0)) fun y1 =>
  some (y1.2 == (0:Int))
def ref3_HasText_L0 (F:Nat) (a0:List (List UInt8)) (a1:List UInt8):Nat→Int→Option (Out Unit Bool)
  | 0,_=>none
  | n+1,v1 =>
    bif (decide (v1 < (a0.length:Int))) then
      chk (0≤v1∧v1 < a0.length) <|
      bif ((a0.getD v1.toNat []) == a1) then
        some (.esc true)
      else
        ref3_HasText_L0 F a0 a1 n (IntKind.i64.wrap (v1+(1:Int)))
    else
      some (.go ())
/-- printworks/printworksref3.HasText -/
def ref3_HasText (F:Nat) (a0:List (List UInt8)) (a1:List UInt8):Option Bool :=
  callE (ref3_HasText_L0 F a0 a1 F (0:Int))
    (fun e=>some e) fun _ =>
  some false
/-- printworks/printworksref3.Refused$1 -/
def ref3_Refused_c1 (F:Nat) (a0:Int) (c1:List (List UInt8)):Option ((List S_TicketFinding)×(List (List UInt8))) :=
  some ([(S_TicketFinding.mk c1 a0)],c1)
def ref3_under_L0 (F:Nat) (a0:List (List UInt8)):Nat→(List (List UInt8))→Int→Option ((List (List UInt8)))
  | 0,_,_=>none
  | n+1,v1,v2 =>
    bif (decide (v2 < (a0.length:Int))) then
      chk (0≤v2∧v2 < a0.length) <|
      chk (0≤v2∧v2 < v1.length) <|
      ref3_under_L0 F a0 n (v1.set v2.toNat (a0.getD v2.toNat [])) (IntKind.i64.wrap (v2+(1:Int)))
    else
      some v1
/-- printworks/printworksref3.under -/
def ref3_under (F:Nat) (a0:List (List UInt8)) (a1:List UInt8):Option ((List (List UInt8))) :=
  chk (0≤(IntKind.i64.wrap ((a0.length:Int)+(1:Int)))∧(IntKind.i64.wrap ((a0.length:Int)+(1:Int)))≤(IntKind.i64.wrap ((a0.length:Int)+(1:Int)))∧(IntKind.i64.wrap ((a0.length:Int)+(1:Int)))≤9223372036854775807∧((16:Nat):Int) * (IntKind.i64.wrap ((a0.length:Int)+(1:Int)))≤281474976710656) <|
  call (ref3_under_L0 F a0 F (List.replicate (IntKind.i64.wrap ((a0.length:Int)+(1:Int))).toNat []) (0:Int))
    fun v3 =>
  chk (0≤(a0.length:Int)∧(a0.length:Int) < v3.length) <|
  some (v3.set (a0.length:Int).toNat a1)
def ref3_Refused_L1 (F:Nat) (a0:S_TicketField) (a1:S_Object) (a2:List (List UInt8)) (rec_ref3_Refused:S_TicketField→S_Object→(List (List UInt8))→Option ((List S_TicketFinding))):Nat→(List S_TicketFinding)→Int→Option ((List S_TicketFinding))
  | 0,_,_=>none
  | n+1,v1,v2 =>
    bif (decide (v2 < (a1.f4.length:Int))) then
      chk (0≤v2∧v2 < a1.f4.length) <|
      chk (0≤(0:Int)∧(0:Int) < a0.f5.length) <|
      call (ref3_Decimal F v2) fun y1 =>
      call (ref3_under F a2 y1) fun y2 =>
      call (rec_ref3_Refused (a0.f5.getD (0:Int).toNat (S_TicketField.mk [] 0 0 0 [] [] false (S_Object.mk 0 0 [] [] []))) (a1.f4.getD v2.toNat (S_Object.mk 0 0 [] [] [])) y2) fun y3 =>
      chk (v1.length+y3.length≤4294967296) <|
      ref3_Refused_L1 F a0 a1 a2 rec_ref3_Refused n (v1++y3) (IntKind.i64.wrap (v2+(1:Int)))
    else
      some v1
def ref3_Refused_L3 (F:Nat) (a0:S_TicketField):Nat→(List (List UInt8))→Int→Option ((List (List UInt8)))
  | 0,_,_=>none
  | n+1,v3,v4 =>
    bif (decide (v4 < (a0.f5.length:Int))) then
      chk (0≤v4∧v4 < a0.f5.length) <|
      chk (v3.length+([(a0.f5.getD v4.toNat (S_TicketField.mk [] 0 0 0 [] [] false (S_Object.mk 0 0 [] [] []))).f0]).length≤4294967296) <|
      lett ((v3++([(a0.f5.getD v4.toNat (S_TicketField.mk [] 0 0 0 [] [] false (S_Object.mk 0 0 [] [] []))).f0]))) fun l1 =>
      ref3_Refused_L3 F a0 n l1 (IntKind.i64.wrap (v4+(1:Int)))
    else
      some v3
def ref3_Refused_L5 (F:Nat) (a1:S_Object):Nat→(List (List UInt8))→Int→Option ((List (List UInt8)))
  | 0,_,_=>none
  | n+1,v5,v6 =>
    bif (decide (v6 < (a1.f3.length:Int))) then
      call (chk (0≤v6∧v6 < a1.f3.length) <|
        call (ref3_HasText F v5 (a1.f3.getD v6.toNat [])) fun y4 =>
        bif (!y4) then
          chk (v5.length+([(a1.f3.getD v6.toNat [])]).length≤4294967296) <|
          some (v5++([(a1.f3.getD v6.toNat [])]))
        else
          some v5)
        fun v7 =>
      ref3_Refused_L5 F a1 n v7 (IntKind.i64.wrap (v6+(1:Int)))
    else
      some v5
def ref3_Refused_L9 (F:Nat)  : Nat→(List (List UInt8))→Int→Option ((List (List UInt8)))
  | 0,_,_=>none
  | n+1,v8,v9 =>
    chk ((((decide (v9 > (0:Int))) == true) && true)=true→0≤v9∧v9 < v8.length) <|
    chk ((((decide (v9 > (0:Int))) == true) && true)=true→0≤(IntKind.i64.wrap (v9 - (1:Int)))∧(IntKind.i64.wrap (v9 - (1:Int))) < v8.length) <|
    lett ((bif (decide (v9 > (0:Int))) then (Op.bytesLess (v8.getD v9.toNat []) (v8.getD (IntKind.i64.wrap (v9 - (1:Int))).toNat [])) else false)) fun z1 =>
    bif z1 then
      chk (0≤(IntKind.i64.wrap (v9 - (1:Int)))∧(IntKind.i64.wrap (v9 - (1:Int))) < v8.length) <|
      chk (0≤v9∧v9 < v8.length) <|
      chk (0≤v9∧v9 < v8.length) <|
      chk (0≤(IntKind.i64.wrap (v9 - (1:Int)))∧(IntKind.i64.wrap (v9 - (1:Int))) < (v8.set v9.toNat (v8.getD (IntKind.i64.wrap (v9 - (1:Int))).toNat [])).length) <|
      ref3_Refused_L9 F n ((v8.set v9.toNat (v8.getD (IntKind.i64.wrap (v9 - (1:Int))).toNat [])).set (IntKind.i64.wrap (v9 - (1:Int))).toNat (v8.getD v9.toNat [])) (IntKind.i64.wrap (v9 - (1:Int)))
    else
      some v8
def ref3_Refused_L7 (F:Nat) (v10:List (List UInt8)):Nat→(List (List UInt8))→Int→Option ((List (List UInt8)))
  | 0,_,_=>none
  | n+1,v11,v12 =>
    bif (decide (v12 < (v10.length:Int))) then
      call (ref3_Refused_L9 F F v11 v12)
        fun v13 =>
      ref3_Refused_L7 F v10 n v13 (IntKind.i64.wrap (v12+(1:Int)))
    else
      some v11
def ref3_Refused_L13 (F:Nat) (a0:S_TicketField) (v14:List (List UInt8)) (v15:Int):Nat→Int→Int→Option Int
  | 0,_,_=>none
  | n+1,v16,v17 =>
    bif (decide (v17 < (a0.f5.length:Int))) then
      call (chk (0≤v17∧v17 < a0.f5.length) <|
        lett ((((a0.f5.getD v17.toNat (S_TicketField.mk [] 0 0 0 [] [] false (S_Object.mk 0 0 [] [] []))).f0) == (v14.getD v15.toNat []))) fun z2 =>
        bif z2 then
          some v17
        else
          some v16)
        fun v18 =>
      ref3_Refused_L13 F a0 v14 v15 n v18 (IntKind.i64.wrap (v17+(1:Int)))
    else
      some v16
def ref3_Refused_L15 (F:Nat) (a1:S_Object) (v14:List (List UInt8)) (v15:Int):Nat→Int→Int→Option Int
  | 0,_,_=>none
  | n+1,v19,v20 =>
    bif (decide (v20 < (a1.f3.length:Int))) then
      call (chk (0≤v20∧v20 < a1.f3.length) <|
        bif ((a1.f3.getD v20.toNat []) == (v14.getD v15.toNat [])) then
          some v20
        else
          some v19)
        fun v21 =>
      ref3_Refused_L15 F a1 v14 v15 n v21 (IntKind.i64.wrap (v20+(1:Int)))
    else
      some v19
def ref3_Refused_L11 (F:Nat) (a0:S_TicketField) (a1:S_Object) (a2:List (List UInt8)) (rec_ref3_Refused:S_TicketField→S_Object→(List (List UInt8))→Option ((List S_TicketFinding))) (v14:List (List UInt8)):Nat→(List S_TicketFinding)→Int→Option ((List S_TicketFinding))
  | 0,_,_=>none
  | n+1,v22,v15 =>
    bif (decide (v15 < (v14.length:Int))) then
      call (chk (0≤v15∧v15 < v14.length) <|
        call (ref3_Refused_L13 F a0 v14 v15 F (-1:Int) (0:Int))
          fun v23 =>
        call (ref3_Refused_L15 F a1 v14 v15 F (-1:Int) (0:Int))
          fun v24 =>
        bif (decide (v23 < (0:Int))) then
          call (ref3_under F a2 (v14.getD v15.toNat [])) fun y5 =>
          chk (v22.length+([(S_TicketFinding.mk y5 (6:Int))]).length≤4294967296) <|
          some (v22++([(S_TicketFinding.mk y5 (6:Int))]))
        else
          bif (decide (v24 ≥ (0:Int))) then
            chk (0≤v23∧v23 < a0.f5.length) <|
            chk (0≤v24∧v24 < a1.f4.length) <|
            call (ref3_under F a2 (v14.getD v15.toNat [])) fun y6 =>
            call (rec_ref3_Refused (a0.f5.getD v23.toNat (S_TicketField.mk [] 0 0 0 [] [] false (S_Object.mk 0 0 [] [] []))) (a1.f4.getD v24.toNat (S_Object.mk 0 0 [] [] [])) y6) fun y7 =>
            chk (v22.length+y7.length≤4294967296) <|
            some (v22++y7)
          else
            chk (0≤v23∧v23 < a0.f5.length) <|
            bif (!((a0.f5.getD v23.toNat (S_TicketField.mk [] 0 0 0 [] [] false (S_Object.mk 0 0 [] [] []))).f6)) then
              call (ref3_under F a2 (v14.getD v15.toNat [])) fun y8 =>
              chk (v22.length+([(S_TicketFinding.mk y8 (8:Int))]).length≤4294967296) <|
              some (v22++([(S_TicketFinding.mk y8 (8:Int))]))
            else
              some v22)
        fun v25 =>
      ref3_Refused_L11 F a0 a1 a2 rec_ref3_Refused v14 n v25 (IntKind.i64.wrap (v15+(1:Int)))
    else
      some v22
/-- printworks/printworksref3.Refused -/
def ref3_Refused_body (F:Nat) (rec_ref3_Refused:S_TicketField→S_Object→(List (List UInt8))→Option ((List S_TicketFinding))) (a0:S_TicketField) (a1:S_Object) (a2:List (List UInt8)):Option ((List S_TicketFinding)) :=
  chk (0≤a0.f1∧a0.f1 < ([(2:Int),(4:Int),(3:Int),(6:Int),(7:Int)]).length) <|
  bif (a1.f0 != (([(2:Int),(4:Int),(3:Int),(6:Int),(7:Int)]).getD a0.f1.toNat 0)) then
    call (ref3_Refused_c1 F (14:Int) a2) fun y9 =>
    some y9.1
  else
    call (lett ((bif (a0.f1 == (0:Int)) then (bif (decide (a1.f1 < a0.f2)) then true else (decide (a1.f1 > a0.f3))) else false)) fun z3 =>
      bif z3 then
        some z3
      else
        lett ((bif (a0.f1 == (1:Int)) then (bif (decide ((a1.f2.length:Int) < a0.f2)) then true else (decide ((a1.f2.length:Int) > a0.f3))) else false)) fun z4 =>
        bif z4 then
          some z4
        else
          lett ((bif (a0.f1 == (3:Int)) then (bif (decide ((a1.f4.length:Int) < a0.f2)) then true else (decide ((a1.f4.length:Int) > a0.f3))) else false)) fun z5 =>
          some z5)
      fun v26 =>
    bif v26 then
      call (ref3_Refused_c1 F (3:Int) a2) fun y10 =>
      some y10.1
    else
      call ((bif (((a0.f1 == (2:Int)) == true) && true) then ref3_HasText F a0.f4 a1.f2 else some false)) fun y11 =>
      bif (bif (a0.f1 == (2:Int)) then (!y11) else false) then
        call (ref3_Refused_c1 F (20:Int) a2) fun y12 =>
        some y12.1
      else
        call (bif (a0.f1 == (3:Int)) then
            call (ref3_Refused_L1 F a0 a1 a2 rec_ref3_Refused F [] (0:Int))
              fun v27 =>
            some v27
          else
            some [])
          fun v28 =>
        bif (a0.f1 != (4:Int)) then
          some v28
        else
          call (ref3_Refused_L3 F a0 F [] (0:Int))
            fun v29 =>
          call (ref3_Refused_L5 F a1 F v29 (0:Int))
            fun v10 =>
          call (ref3_Refused_L7 F v10 F v10 (0:Int))
            fun v14 =>
          call (ref3_Refused_L11 F a0 a1 a2 rec_ref3_Refused v14 F v28 (0:Int))
            fun v30 =>
          some v30
def ref3_Refused_fuel (F:Nat):Nat→S_TicketField→S_Object→(List (List UInt8))→Option ((List S_TicketFinding))
  | 0=>fun _ _ _=>none
  | n+1=>ref3_Refused_body F (ref3_Refused_fuel F n)
def ref3_Refused (F:Nat) (a0:S_TicketField) (a1:S_Object) (a2:List (List UInt8)):Option ((List S_TicketFinding)):=ref3_Refused_fuel F F a0 a1 a2
def ref3_FieldError_L1 (F:Nat) (a0:S_TicketField) (c3:Int):Nat→Int→Option (Out Unit (Int×Int))
  | 0,_=>none
  | n+1,v1 =>
    bif (decide (v1 < (a0.f4.length:Int))) then
      chk (0≤v1∧v1 < a0.f4.length) <|
      call (ref3_ticketName F (a0.f4.getD v1.toNat [])) fun y1 =>
      bif (!y1) then
        some (.esc ((6:Int),IntKind.i64.wrap (c3+(1:Int))))
      else
        chk (0≤(0:Int)∧(0:Int)≤v1∧v1≤(a0.f4.length:Int)) <|
        call (ref3_HasText F ((a0.f4.drop (0:Int).toNat).take (v1.toNat - (0:Int).toNat)) (a0.f4.getD v1.toNat [])) fun y2 =>
        bif y2 then
          some (.esc ((7:Int),IntKind.i64.wrap (c3+(1:Int))))
        else
          ref3_FieldError_L1 F a0 c3 n (IntKind.i64.wrap (v1+(1:Int)))
    else
      some (.go ())
def ref3_FieldError_L3 (F:Nat) (a0:S_TicketField) (a1:Int) (rec_ref3_FieldError:S_TicketField→Int→Bool→Int→Option (Int×Int)):Nat→Int→Int→Option (Out Int (Int×Int))
  | 0,_,_=>none
  | n+1,v2,v3 =>
    bif (decide (v2 < (a0.f5.length:Int))) then
      chk (0≤v2∧v2 < a0.f5.length) <|
      call (rec_ref3_FieldError (a0.f5.getD v2.toNat (S_TicketField.mk [] 0 0 0 [] [] false (S_Object.mk 0 0 [] [] []))) (IntKind.i64.wrap (a1+(1:Int))) (a0.f1 == (4:Int)) v3) fun y3 =>
      bif (y3.1 != (0:Int)) then
        some (.esc (y3.1,y3.2))
      else
        chk ((((decide (v2 > (0:Int))) == true) && true)=true→0≤(IntKind.i64.wrap (v2 - (1:Int)))∧(IntKind.i64.wrap (v2 - (1:Int))) < a0.f5.length) <|
        lett ((a0.f5.getD (IntKind.i64.wrap (v2 - (1:Int))).toNat (S_TicketField.mk [] 0 0 0 [] [] false (S_Object.mk 0 0 [] [] []))).f0) fun z1 =>
        lett ((Op.bytesLess ((a0.f5.getD v2.toNat (S_TicketField.mk [] 0 0 0 [] [] false (S_Object.mk 0 0 [] [] []))).f0) z1 || ((a0.f5.getD v2.toNat (S_TicketField.mk [] 0 0 0 [] [] false (S_Object.mk 0 0 [] [] []))).f0) == z1)) fun z2 =>
        bif (bif (decide (v2 > (0:Int))) then z2 else false) then
          some (.esc ((18:Int),y3.2))
        else
          ref3_FieldError_L3 F a0 a1 rec_ref3_FieldError n (IntKind.i64.wrap (v2+(1:Int))) y3.2
    else
      some (.go v3)
/-- printworks/printworksref3.FieldError -/
def ref3_FieldError_body (F:Nat) (rec_ref3_FieldError:S_TicketField→Int→Bool→Int→Option (Int×Int)) (a0:S_TicketField) (a1:Int) (a2:Bool) (c3:Int):Option (Int×Int) :=
  bif (decide ((IntKind.i64.wrap (c3+(1:Int))) > (64:Int))) then
    some ((2:Int),IntKind.i64.wrap (c3+(1:Int)))
  else
    bif (decide (a1 > (5:Int))) then
      some ((15:Int),IntKind.i64.wrap (c3+(1:Int)))
    else
      call (ref3_Shown F a0.f7) fun y4 =>
      bif (y4.2 != (0:Int)) then
        some (y4.2,IntKind.i64.wrap (c3+(1:Int)))
      else
        bif (bif (decide (a0.f1 < (0:Int))) then true else (decide (a0.f1 > (4:Int)))) then
          some ((14:Int),IntKind.i64.wrap (c3+(1:Int)))
        else
          call ((bif ((a2 == true) && true) then ref3_ticketName F a0.f0 else some false)) fun y5 =>
          bif (bif a2 then (!y5) else false) then
            some ((6:Int),IntKind.i64.wrap (c3+(1:Int)))
          else
            call (bif (bif (!a2) then (bif (!(a0.f0 == [])) then true else a0.f6) else false) then
                some (bif (!a2) then (bif (!(a0.f0 == [])) then true else a0.f6) else false)
              else
                some (bif (!a0.f6) then (a0.f7.f0 != (0:Int)) else false))
              fun v4 =>
            bif v4 then
              some ((4:Int),IntKind.i64.wrap (c3+(1:Int)))
            else
              lett ((bif (bif (!(a0.f1 == (0:Int))) then (!(a0.f1 == (1:Int))) else false) then (!(a0.f1 == (3:Int))) else false)) fun z3 =>
              bif (bif z3 then (bif (a0.f2 != (0:Int)) then true else (a0.f3 != (0:Int))) else false) then
                some ((4:Int),IntKind.i64.wrap (c3+(1:Int)))
              else
                lett ((bif (bif (a0.f1 == (0:Int)) then true else (a0.f1 == (1:Int))) then true else (a0.f1 == (2:Int)))) fun z4 =>
                lett ((bif (bif (!(a0.f1 == (2:Int))) then (decide ((a0.f4.length:Int) > (0:Int))) else false) then true else (bif z4 then (decide ((a0.f5.length:Int) > (0:Int))) else false))) fun z5 =>
                lett ((bif z5 then true else (bif (a0.f1 == (3:Int)) then ((a0.f5.length:Int) != (1:Int)) else false))) fun z6 =>
                bif z6 then
                  some ((4:Int),IntKind.i64.wrap (c3+(1:Int)))
                else
                  callE (lett ((bif (bif (a0.f1 == (0:Int)) then true else (a0.f1 == (1:Int))) then true else (a0.f1 == (3:Int)))) fun z7 =>
                    bif z7 then
                      call (bif (a0.f1 == (1:Int)) then
                          some (128:Int)
                        else
                          some (2147483647:Int))
                        fun v5 =>
                      call (bif (a0.f1 == (3:Int)) then
                          some (16:Int)
                        else
                          some v5)
                        fun v6 =>
                      lett ((bif (bif (decide (a0.f2 > a0.f3)) then true else (decide (a0.f3 > v6))) then true else (bif (a0.f1 == (0:Int)) then (decide (a0.f2 < (IntKind.i64.wrap (0 - v6)))) else false))) fun z8 =>
                      bif (bif z8 then true else (bif (!(a0.f1 == (0:Int))) then (decide (a0.f2 < (0:Int))) else false)) then
                        some (.esc ((3:Int),IntKind.i64.wrap (c3+(1:Int))))
                      else
                        some (.go ())
                    else
                      some (.go ()))
                    (fun e=>some e) fun _ =>
                  bif (bif (a0.f1 == (2:Int)) then ((a0.f4.length:Int) == (0:Int)) else false) then
                    some ((8:Int),IntKind.i64.wrap (c3+(1:Int)))
                  else
                    bif (decide ((a0.f4.length:Int) > (16:Int))) then
                      some ((2:Int),IntKind.i64.wrap (c3+(1:Int)))
                    else
                      callE (ref3_FieldError_L1 F a0 c3 F (0:Int))
                        (fun e=>some e) fun _ =>
                      callE (ref3_FieldError_L3 F a0 a1 rec_ref3_FieldError F (0:Int) (IntKind.i64.wrap (c3+(1:Int))))
                        (fun e=>some e) fun v7 =>
                      call ((bif (((a0.f7.f0 != (0:Int)) == true) && true) then ref3_Refused F a0 a0.f7 [] else some [])) fun y6 =>
                      bif (bif (a0.f7.f0 != (0:Int)) then (decide ((y6.length:Int) > (0:Int))) else false) then
                        some ((20:Int),v7)
                      else
                        some ((0:Int),v7)
def ref3_FieldError_fuel (F:Nat):Nat→S_TicketField→Int→Bool→Int→Option (Int×Int)
  | 0=>fun _ _ _ _=>none
  | n+1=>ref3_FieldError_body F (ref3_FieldError_fuel F n)
def ref3_FieldError (F:Nat) (a0:S_TicketField) (a1:Int) (a2:Bool) (c3:Int):Option (Int×Int):=ref3_FieldError_fuel F F a0 a1 a2 c3
/-- printworks/printworksref3.bound$1 -/
def ref3_bound_c1 (F:Nat) (a0:List UInt8):Option Int :=
  call (ref3_Spelled F (S_Token.mk (2:Int) 0 a0 0 0)) fun y1 =>
  some (y1.1.length:Int)
def ref3_bound_L3 (F:Nat) (a0:S_TicketField):Nat→Int→Int→Option Int
  | 0,_,_=>none
  | n+1,v1,v2 =>
    bif (decide (v2 < (a0.f4.length:Int))) then
      chk (0≤v2∧v2 < a0.f4.length) <|
      call (ref3_bound_c1 F (a0.f4.getD v2.toNat [])) fun y1 =>
      ref3_bound_L3 F a0 n (if v1 < y1 then y1 else v1) (IntKind.i64.wrap (v2+(1:Int)))
    else
      some v1
def ref3_bound_L1 (F:Nat) (a0:S_TicketField) (rec_ref3_bound:S_TicketField→Option Int):Nat→Int→Int→Option Int
  | 0,_,_=>none
  | n+1,v3,v4 =>
    bif (decide (v4 < (a0.f5.length:Int))) then
      chk (0≤v4∧v4 < a0.f5.length) <|
      call (rec_ref3_bound (a0.f5.getD v4.toNat (S_TicketField.mk [] 0 0 0 [] [] false (S_Object.mk 0 0 [] [] [])))) fun y2 =>
      call (ref3_bound_c1 F ((a0.f5.getD v4.toNat (S_TicketField.mk [] 0 0 0 [] [] false (S_Object.mk 0 0 [] [] []))).f0)) fun y3 =>
      ref3_bound_L1 F a0 rec_ref3_bound n (IntKind.i64.wrap (v3+(IntKind.i64.wrap ((IntKind.i64.wrap ((2:Int)+y2))+y3)))) (IntKind.i64.wrap (v4+(1:Int)))
    else
      some v3
/-- printworks/printworksref3.bound -/
def ref3_bound_body (F:Nat) (rec_ref3_bound:S_TicketField→Option Int) (a0:S_TicketField):Option Int :=
  call (bif (a0.f1 == (0:Int)) then
      some (12:Int)
    else
      bif (a0.f1 == (1:Int)) then
        some (IntKind.i64.wrap ((IntKind.i64.wrap ((4:Int) * a0.f3))+(2:Int)))
      else
        bif (a0.f1 == (2:Int)) then
          call (ref3_bound_L3 F a0 F (0:Int) (0:Int))
            fun v5 =>
          some v5
        else
          bif (a0.f1 == (3:Int)) then
            chk (0≤(0:Int)∧(0:Int) < a0.f5.length) <|
            call (rec_ref3_bound (a0.f5.getD (0:Int).toNat (S_TicketField.mk [] 0 0 0 [] [] false (S_Object.mk 0 0 [] [] [])))) fun y4 =>
            some (IntKind.i64.wrap ((IntKind.i64.wrap (a0.f3 * (IntKind.i64.wrap ((1:Int)+y4))))+(2:Int)))
          else
            call (ref3_bound_L1 F a0 rec_ref3_bound F (4:Int) (0:Int))
              fun v6 =>
            some v6)
    fun v7 =>
  some v7
def ref3_bound_fuel (F:Nat):Nat→S_TicketField→Option Int
  | 0=>fun _=>none
  | n+1=>ref3_bound_body F (ref3_bound_fuel F n)
def ref3_bound (F:Nat) (a0:S_TicketField):Option Int:=ref3_bound_fuel F F a0
/-- printworks/printworksref3.SchemaError -/
def ref3_SchemaError (F:Nat) (a0:S_TicketField):Option Int :=
  call (ref3_FieldError F a0 (1:Int) false (0:Int)) fun y1 =>
  bif (y1.1 != (0:Int)) then
    some y1.1
  else
    bif (a0.f1 != (4:Int)) then
      some (14:Int)
    else
      call (ref3_bound F a0) fun y2 =>
      bif (decide (y2 > (8192:Int))) then
        some (2:Int)
      else
        some (0:Int)
/-- printworks/ticket.Standard$1 -/
def ticket_Standard_c1 (F:Nat) (a0:List UInt8) (a1:List UInt8) (a2:List (List UInt8)):Option S_TicketField :=
  some (S_TicketField.mk a0 (2:Int) 0 0 a2 [] true (S_Object.mk (3:Int) 0 a1 [] []))
/-- printworks/ticket.Standard -/
def ticket_Standard (F:Nat)  : Option S_TicketField :=
  call (ticket_Standard_c1 F ([78,117,109,98,101,114,101,100]:List UInt8) ([78,111]:List UInt8) ([([78,111]:List UInt8),([89,101,115]:List UInt8)])) fun y1 =>
  call (ticket_Standard_c1 F ([83,116,121,108,101]:List UInt8) ([83,104,101,101,116,119,105,115,101]:List UInt8) ([([83,104,101,101,116,119,105,115,101]:List UInt8),([84,117,114,110]:List UInt8),([84,117,109,98,108,101]:List UInt8)])) fun y2 =>
  some (S_TicketField.mk [] (4:Int) 0 0 [] ([(S_TicketField.mk ([67,111,112,105,101,115]:List UInt8) (0:Int) (1:Int) (9999:Int) [] [] false (S_Object.mk 0 0 [] [] [])),(S_TicketField.mk ([70,111,108,100]:List UInt8) (1:Int) (3:Int) (35:Int) [] [] false (S_Object.mk 0 0 [] [] [])),(S_TicketField.mk ([78,97,109,101]:List UInt8) (1:Int) (1:Int) (16:Int) [] [] false (S_Object.mk 0 0 [] [] [])),y1,(S_TicketField.mk ([80,97,103,101,115]:List UInt8) (0:Int) (1:Int) (64:Int) [] [] false (S_Object.mk 0 0 [] [] [])),(S_TicketField.mk ([80,114,105,111,114,105,116,121]:List UInt8) (0:Int) (0:Int) (9:Int) [] [] true (S_Object.mk (2:Int) (5:Int) [] [] [])),y2]) false (S_Object.mk 0 0 [] [] []))
def law3_TicketStandardSchema_L0 (F:Nat) (a0:S_Object):Nat→Bool→Int→Int→Option (Bool×Int)
  | 0,_,_,_=>none
  | n+1,v1,v2,v3 =>
    bif (decide (v3 < (a0.f3.length:Int))) then
      call (chk (0≤v3∧v3 < a0.f3.length) <|
        chk (0≤v3∧v3 < a0.f4.length) <|
        bif ((a0.f3.getD v3.toNat []) == ([67,111,112,105,101,115]:List UInt8)) then
          lett ((bif (bif v1 then (((a0.f4.getD v3.toNat (S_Object.mk 0 0 [] [] [])).f0) == (2:Int)) else false) then (decide (((a0.f4.getD v3.toNat (S_Object.mk 0 0 [] [] [])).f1) ≥ (1:Int))) else false)) fun z1 =>
          lett ((bif z1 then (decide (((a0.f4.getD v3.toNat (S_Object.mk 0 0 [] [] [])).f1)≤(9999:Int))) else false)) fun z2 =>
          some (z2,IntKind.i64.wrap (v2+(1:Int)))
        else
          bif ((a0.f3.getD v3.toNat []) == ([80,97,103,101,115]:List UInt8)) then
            lett ((bif (bif v1 then (((a0.f4.getD v3.toNat (S_Object.mk 0 0 [] [] [])).f0) == (2:Int)) else false) then (decide (((a0.f4.getD v3.toNat (S_Object.mk 0 0 [] [] [])).f1) ≥ (1:Int))) else false)) fun z3 =>
            lett ((bif z3 then (decide (((a0.f4.getD v3.toNat (S_Object.mk 0 0 [] [] [])).f1)≤(64:Int))) else false)) fun z4 =>
            some (z4,IntKind.i64.wrap (v2+(1:Int)))
          else
            bif ((a0.f3.getD v3.toNat []) == ([70,111,108,100]:List UInt8)) then
              lett ((bif (bif v1 then (((a0.f4.getD v3.toNat (S_Object.mk 0 0 [] [] [])).f0) == (4:Int)) else false) then (decide ((((a0.f4.getD v3.toNat (S_Object.mk 0 0 [] [] [])).f2).length:Int) ≥ (3:Int))) else false)) fun z5 =>
              lett ((bif z5 then (decide ((((a0.f4.getD v3.toNat (S_Object.mk 0 0 [] [] [])).f2).length:Int)≤(35:Int))) else false)) fun z6 =>
              some (z6,IntKind.i64.wrap (v2+(1:Int)))
            else
              bif ((a0.f3.getD v3.toNat []) == ([78,97,109,101]:List UInt8)) then
                lett ((bif (bif v1 then (((a0.f4.getD v3.toNat (S_Object.mk 0 0 [] [] [])).f0) == (4:Int)) else false) then (decide ((((a0.f4.getD v3.toNat (S_Object.mk 0 0 [] [] [])).f2).length:Int) ≥ (1:Int))) else false)) fun z7 =>
                lett ((bif z7 then (decide ((((a0.f4.getD v3.toNat (S_Object.mk 0 0 [] [] [])).f2).length:Int)≤(16:Int))) else false)) fun z8 =>
                some (z8,IntKind.i64.wrap (v2+(1:Int)))
              else
                bif ((a0.f3.getD v3.toNat []) == ([80,114,105,111,114,105,116,121]:List UInt8)) then
                  lett ((bif (bif v1 then (((a0.f4.getD v3.toNat (S_Object.mk 0 0 [] [] [])).f0) == (2:Int)) else false) then (decide (((a0.f4.getD v3.toNat (S_Object.mk 0 0 [] [] [])).f1) ≥ (0:Int))) else false)) fun z9 =>
                  lett ((bif z9 then (decide (((a0.f4.getD v3.toNat (S_Object.mk 0 0 [] [] [])).f1)≤(9:Int))) else false)) fun z10 =>
                  some (z10,v2)
                else
                  bif ((a0.f3.getD v3.toNat []) == ([78,117,109,98,101,114,101,100]:List UInt8)) then
                    lett ((bif (((a0.f4.getD v3.toNat (S_Object.mk 0 0 [] [] [])).f2) == ([89,101,115]:List UInt8)) then true else (((a0.f4.getD v3.toNat (S_Object.mk 0 0 [] [] [])).f2) == ([78,111]:List UInt8)))) fun z11 =>
                    lett ((bif (bif v1 then (((a0.f4.getD v3.toNat (S_Object.mk 0 0 [] [] [])).f0) == (3:Int)) else false) then z11 else false)) fun z12 =>
                    some (z12,v2)
                  else
                    bif ((a0.f3.getD v3.toNat []) == ([83,116,121,108,101]:List UInt8)) then
                      lett ((((a0.f4.getD v3.toNat (S_Object.mk 0 0 [] [] [])).f2) == ([83,104,101,101,116,119,105,115,101]:List UInt8))) fun z13 =>
                      lett ((bif z13 then true else (((a0.f4.getD v3.toNat (S_Object.mk 0 0 [] [] [])).f2) == ([84,117,114,110]:List UInt8)))) fun z14 =>
                      lett ((((a0.f4.getD v3.toNat (S_Object.mk 0 0 [] [] [])).f2) == ([84,117,109,98,108,101]:List UInt8))) fun z15 =>
                      lett ((bif (bif v1 then (((a0.f4.getD v3.toNat (S_Object.mk 0 0 [] [] [])).f0) == (3:Int)) else false) then (bif z14 then true else z15) else false)) fun z16 =>
                      some (z16,v2)
                    else
                      some (false,v2))
        fun (v4,v5) =>
      law3_TicketStandardSchema_L0 F a0 n v4 v5 (IntKind.i64.wrap (v3+(1:Int)))
    else
      some (v1,v2)
/-- printworks/printworkslaw3.TicketStandardSchema -/
def law3_TicketStandardSchema (F:Nat) (a0:S_Object):Option Bool :=
  call (law3_ticketFact F) fun y1 =>
  bif (!y1) then
    some false
  else
    call (ticket_Standard F) fun y2 =>
    call (ticket_Validate F y2 a0) fun y3 =>
    call (ref3_Shown F a0) fun y4 =>
    bif (y4.2 != (0:Int)) then
      some (bif (y3.2 == y4.2) then ((y3.1.length:Int) == (0:Int)) else false)
    else
      call (law3_TicketStandardSchema_L0 F a0 F (a0.f0 == (7:Int)) (0:Int) (0:Int))
        fun (v6,v7) =>
      call (ticket_Check F y2) fun y5 =>
      lett ((bif (bif (y5 == (0:Int)) then (y3.2 == (0:Int)) else false) then (((y3.1.length:Int) == (0:Int)) == (bif v6 then (v7 == (4:Int)) else false)) else false)) fun z17 =>
      some z17
end Go.Vm.TicG
