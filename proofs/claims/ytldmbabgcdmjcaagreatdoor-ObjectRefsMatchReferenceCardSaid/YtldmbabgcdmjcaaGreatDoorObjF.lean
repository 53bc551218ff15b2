import Derived.Test.YtldmbabgcdmjcaaGreatDoorVmC
import Derived.Test.YtldmbabgcdmjcaaGreatDoorVmD
import Derived.Lib.ItoaNum
import Derived.Lib.AtoiAll
import Derived.Lib.Bytealg
import Derived.Shelf.GgClosure.StringsIndexFunc
namespace Go.Vm.ObjG
structure S_Object where
  f0:Int
  f1:Int
  f2:List UInt8
  f3:List (List UInt8)
  f4:List S_Object
mutual
def rS_Object:S_Object→List Dat
  | ⟨x0,x1,x2,x3,x4⟩=>(cI .i64) x0++(cI .i64) x1++cS x2++(cL 1 cS) x3++[Dat.sl 5 (rsS_Object x4)]
def rsS_Object:List S_Object→List (List Dat)
  | []=>[]
  | x :: l=>rS_Object x :: rsS_Object l
end
theorem rsS_Object_eq:∀ l,rsS_Object l=l.map rS_Object
  | []=>rfl
  | x :: l=>congrArg (rS_Object x :: ·) (rsS_Object_eq l)
def cS_Object (x:S_Object):List Dat:=(cI .i64) x.f0++(cI .i64) x.f1++cS x.f2++(cL 1 cS) x.f3++(cL 5 rS_Object) x.f4
theorem rS_Object_eq:∀ x,rS_Object x=cS_Object x
  | ⟨x0,x1,x2,x3,x4⟩=>by simp only [rS_Object,cS_Object,rsS_Object_eq,cL]
structure S_Token where
  f0:Int
  f1:Int
  f2:List UInt8
  f3:Int
  f4:Int
deriving DecidableEq
def cS_Token (x:S_Token):List Dat:=(cI .i64) x.f0++(cI .i64) x.f1++cS x.f2++(cI .i64) x.f3++(cI .i64) x.f4
def glob_internal_strconv_uint64pow10:List Int:=[1,10,100,1000,10000,100000,1000000,10000000,100000000,1000000000,10000000000,100000000000,1000000000000,10000000000000,100000000000000,1000000000000000,10000000000000000,100000000000000000,1000000000000000000,10000000000000000000]
/-- what strconv.Atoi returns of a number. -/
def sAtoi (l:List UInt8):Option Int :=
  match Lib.atoiAll l with
  | .ok v=>some v
  | _=>none
/-- strings.ContainsFunc,of a predicate that answers at every rune. -/
def sContains (q:Int→Option Bool) (l:List UInt8):Option Bool :=
  if ∀ x:Nat,x≤1114111→(q x).isSome=true then some (decide (0≤Lib.idxFunc (fun x=>(q x).getD false) true ⟨l.toArray⟩)) else none
theorem sContains_ok {q:Int→Option Bool} {l:List UInt8} {r:Bool} (h:sContains q l=some r):(∀ x:Nat,x≤1114111→(q x).isSome=true)∧r=decide (0≤Lib.idxFunc (fun x=>(q x).getD false) true ⟨l.toArray⟩):=by
  unfold sContains at h
  split at h
  · rename_i h1; cases h; exact ⟨h1,rfl⟩
  · cases h
/-- The same,of a predicate of which it is plain that it answers. -/
def tContains (q:Int→Option Bool) (l:List UInt8):Option Bool:=some (decide (0≤Lib.idxFunc (fun x=>(q x).getD false) true ⟨l.toArray⟩))
theorem sContains_of {q:Int→Option Bool} {l:List UInt8} {r:Bool} (ht:∀ x:Nat,x≤1114111→(q x).isSome=true) (h:tContains q l=some r):sContains q l=some r:=by
  unfold sContains
  rw [if_pos ht]
  exact h
/-- printworks/token.white -/
def token_white (F:Nat) (a0:Int):Option Bool :=
  some (bif (bif (a0 == (32:Int)) then true else (a0 == (9:Int))) then true else (a0 == (10:Int)))
def token_cursor_skip_L0 (F:Nat) (c0:List UInt8):Nat→Bool→Int→Option (Out Int ((List UInt8)×Int))
  | 0,_,_=>none
  | n+1,v1,v2 =>
    bif (decide (v2 < (c0.length:Int))) then
      callE (chk (0≤v2∧v2 < c0.length) <|
        bif v1 then
          some (.go (((c0.getD v2.toNat 0).toNat:Int) != (10:Int)))
        else
          bif (((c0.getD v2.toNat 0).toNat:Int) == (37:Int)) then
            some (.go true)
          else
            call (token_white F ((c0.getD v2.toNat 0).toNat:Int)) fun y1 =>
            bif (!y1) then
              some (.esc (c0,v2))
            else
              some (.go v1))
        (fun e=>some (.esc e)) fun v3 =>
      token_cursor_skip_L0 F c0 n v3 (IntKind.i64.wrap (v2+(1:Int)))
    else
      some (.go v2)
/-- (*printworks/token.cursor).skip -/
def token_cursor_skip (F:Nat) (c0:List UInt8) (c1:Int):Option ((List UInt8)×Int) :=
  callE (token_cursor_skip_L0 F c0 F false c1)
    (fun e=>some e) fun v4 =>
  some (c0,v4)
/-- printworks/token.digit -/
def token_digit (F:Nat) (a0:Int):Option Bool :=
  some (bif (decide ((48:Int)≤a0)) then (decide (a0≤(57:Int))) else false)
/-- printworks/token.delimiter -/
def token_delimiter (F:Nat) (a0:Int):Option Bool :=
  lett ((decide ((Lib.indexByte ([40,41,60,62,91,93,47,64,37]:List UInt8) a0.toNat.toUInt8) ≥ (0:Int)))) fun z1 =>
  some z1
/-- printworks/token.regular -/
def token_regular (F:Nat) (a0:Int):Option Bool :=
  call (token_white F a0) fun y1 =>
  call ((bif (((!y1) == true) && true) then token_delimiter F a0 else some false)) fun y2 =>
  some (bif (!y1) then (!y2) else false)
def token_cursor_run_L0 (F:Nat) (c0:List UInt8):Nat→Int→Option Int
  | 0,_=>none
  | n+1,v1 =>
    chk ((((decide (v1 < (c0.length:Int))) == true) && true)=true→0≤v1∧v1 < c0.length) <|
    call ((bif (((decide (v1 < (c0.length:Int))) == true) && true) then token_regular F ((c0.getD v1.toNat 0).toNat:Int) else some false)) fun y1 =>
    bif (bif (decide (v1 < (c0.length:Int))) then y1 else false) then
      token_cursor_run_L0 F c0 n (IntKind.i64.wrap (v1+(1:Int)))
    else
      some v1
/-- (*printworks/token.cursor).run -/
def token_cursor_run (F:Nat) (c0:List UInt8) (c1:Int):Option ((List UInt8)×(List UInt8)×Int) :=
  call (token_cursor_run_L0 F c0 F c1)
    fun v2 =>
  chk (0≤c1∧c1≤v2∧v2≤(c0.length:Int)) <|
  some (((c0.drop c1.toNat).take (v2.toNat - c1.toNat)),c0,v2)
/-- printworks/token.integer$1 -/
def token_integer_c1 (F:Nat) (a0:Int):Option Bool :=
  some (bif (decide (a0 < (48:Int))) then true else (decide (a0 > (57:Int))))
/-- printworks/token.integer -/
def token_integer (F:Nat) (a0:List UInt8):Option (Int×Int) :=
  call (chk (0≤(0:Int)∧(0:Int) < a0.length) <|
    chk ((((((a0.getD (0:Int).toNat 0).toNat:Int) == (43:Int)) == false) && true)=true→0≤(0:Int)∧(0:Int) < a0.length) <|
    lett ((bif (((a0.getD (0:Int).toNat 0).toNat:Int) == (43:Int)) then true else (((a0.getD (0:Int).toNat 0).toNat:Int) == (45:Int)))) fun z1 =>
    bif z1 then
      chk (0≤(1:Int)∧(1:Int)≤(a0.length:Int)∧(a0.length:Int)≤(a0.length:Int)) <|
      some ((a0.drop (1:Int).toNat).take ((a0.length:Int).toNat - (1:Int).toNat))
    else
      some a0)
    fun v1 =>
  call ((bif (((bif (v1 == []) then true else (decide ((v1.length:Int) > (10:Int)))) == false) && true) then tContains (fun x=>token_integer_c1 F x) v1 else some false)) fun y1 =>
  bif (bif (bif (v1 == []) then true else (decide ((v1.length:Int) > (10:Int)))) then true else y1) then
    some ((0:Int),(5:Int))
  else
    chk (a0.length≤9223372036854775806) <|
    call (sAtoi a0) fun y2 =>
    bif (bif (decide (y2 < (-2147483647:Int))) then true else (decide (y2 > (2147483647:Int)))) then
      some ((0:Int),(3:Int))
    else
      some (y2,(0:Int))
/-- printworks/token.letter -/
def token_letter (F:Nat) (a0:Int):Option Bool :=
  lett ((bif (bif (decide ((97:Int)≤a0)) then (decide (a0≤(122:Int))) else false) then true else (bif (decide ((65:Int)≤a0)) then (decide (a0≤(90:Int))) else false))) fun z1 =>
  some z1
/-- printworks/token.limited -/
def token_limited (F:Nat) (a0:List UInt8) (a1:Int):Option ((List UInt8)×Int) :=
  bif (decide ((a0.length:Int) > a1)) then
    some ([],(2:Int))
  else
    some (a0,(0:Int))
def token_word_L0 (F:Nat) (a0:List UInt8):Nat→Int→Option (Out Unit ((List UInt8)×Int))
  | 0,_=>none
  | n+1,v1 =>
    bif (decide (v1 < (a0.length:Int))) then
      chk (0≤v1∧v1 < a0.length) <|
      call (token_letter F ((a0.getD v1.toNat 0).toNat:Int)) fun y1 =>
      call ((bif (((v1 == (0:Int)) == false) && (((!y1) == true) && true)) then token_digit F ((a0.getD v1.toNat 0).toNat:Int) else some false)) fun y2 =>
      lett ((bif (bif (!y1) then (bif (v1 == (0:Int)) then true else (!y2)) else false) then (((a0.getD v1.toNat 0).toNat:Int) != (42:Int)) else false)) fun z1 =>
      lett ((bif (bif z1 then (((a0.getD v1.toNat 0).toNat:Int) != (95:Int)) else false) then (((a0.getD v1.toNat 0).toNat:Int) != (46:Int)) else false)) fun z2 =>
      bif z2 then
        some (.esc ([],(5:Int)))
      else
        token_word_L0 F a0 n (IntKind.i64.wrap (v1+(1:Int)))
    else
      some (.go ())
/-- printworks/token.word -/
def token_word (F:Nat) (a0:List UInt8):Option ((List UInt8)×Int) :=
  callE (token_word_L0 F a0 F (0:Int))
    (fun e=>some e) fun _ =>
  bif (a0 == []) then
    some ([],(5:Int))
  else
    call (token_limited F a0 (31:Int)) fun y3 =>
    some (y3.1,y3.2)
/-- printworks/token.hexDigit -/
def token_hexDigit (F:Nat) (a0:Int):Option (Int×Bool) :=
  call (token_digit F a0) fun y1 =>
  bif y1 then
    some (IntKind.u8.wrap (a0 - (48:Int)),true)
  else
    bif (bif (decide ((97:Int)≤a0)) then (decide (a0≤(102:Int))) else false) then
      some (IntKind.u8.wrap ((IntKind.u8.wrap (a0 - (97:Int)))+(10:Int)),true)
    else
      bif (bif (decide ((65:Int)≤a0)) then (decide (a0≤(70:Int))) else false) then
        some (IntKind.u8.wrap ((IntKind.u8.wrap (a0 - (65:Int)))+(10:Int)),true)
      else
        some ((0:Int),false)
/-- (*printworks/token.cursor).pair -/
def token_cursor_pair (F:Nat) (c0:List UInt8) (c1:Int):Option (Int×Bool×(List UInt8)×Int) :=
  bif (decide ((IntKind.i64.wrap (c1+(2:Int))) > (c0.length:Int))) then
    some ((0:Int),false,c0,c1)
  else
    chk (0≤c1∧c1 < c0.length) <|
    call (token_hexDigit F ((c0.getD c1.toNat 0).toNat:Int)) fun y1 =>
    chk (0≤(IntKind.i64.wrap (c1+(1:Int)))∧(IntKind.i64.wrap (c1+(1:Int))) < c0.length) <|
    call (token_hexDigit F ((c0.getD (IntKind.i64.wrap (c1+(1:Int))).toNat 0).toNat:Int)) fun y2 =>
    lett (IntKind.u8.wrap ((BitVec.ofInt IntKind.u8.bits (IntKind.u8.wrap (y1.1 * 2 ^ (min (4:Int).toNat IntKind.u8.bits))) ||| BitVec.ofInt IntKind.u8.bits y2.1).toNat:Int)) fun z1 =>
    some (z1,(bif y1.2 then y2.2 else false),c0,IntKind.i64.wrap (c1+(2:Int)))
/-- (*strings.Builder).WriteByte -/
def strings_Builder_WriteByte (F:Nat) (a0:Int) (c1:List UInt8):Option (Unit×(List UInt8)) :=
  chk (0≤a0∧a0 < 256) <|
  chk (c1.length+([(UInt8.ofNat a0.toNat)]).length≤4294967296) <|
  some ((),(c1++([(UInt8.ofNat a0.toNat)])))
/-- (*strings.Builder).Len -/
def strings_Builder_Len (F:Nat) (c0:List UInt8):Option (Int×(List UInt8)) :=
  some ((c0.length:Int),c0)
def token_cursor_name_L0 (F:Nat) (y1:(List UInt8)×(List UInt8)×Int):Nat→(List UInt8)→Int→(List UInt8)→Option (Out ((List UInt8)) ((List UInt8)×Int×(List UInt8)×Int))
  | 0,_,_,_=>none
  | n+1,v1,v2,v3 =>
    bif (decide (v2 < (v1.length:Int))) then
      chk (0≤v2∧v2 < v1.length) <|
      bif (((v1.getD v2.toNat 0).toNat:Int) == (35:Int)) then
        call (token_cursor_pair F v1 (IntKind.i64.wrap (v2+(1:Int)))) fun y2 =>
        bif (bif (!y2.2.1) then true else (y2.1 == (0:Int))) then
          some (.esc ([],(5:Int),y1.2.1,y1.2.2))
        else
          call (strings_Builder_WriteByte F y2.1 v3) fun y3 =>
          token_cursor_name_L0 F y1 n y2.2.2.1 y2.2.2.2 y3.2
      else
        lett ((bif (decide (((v1.getD v2.toNat 0).toNat:Int) < (33:Int))) then true else (decide (((v1.getD v2.toNat 0).toNat:Int) > (126:Int))))) fun z1 =>
        bif z1 then
          some (.esc ([],(5:Int),y1.2.1,y1.2.2))
        else
          call (strings_Builder_WriteByte F ((v1.getD v2.toNat 0).toNat:Int) v3) fun y4 =>
          token_cursor_name_L0 F y1 n v1 (IntKind.i64.wrap (v2+(1:Int))) y4.2
    else
      some (.go v3)
/-- (*printworks/token.cursor).name -/
def token_cursor_name (F:Nat) (c0:List UInt8) (c1:Int):Option ((List UInt8)×Int×(List UInt8)×Int) :=
  call (token_cursor_run F c0 c1) fun y1 =>
  callE (token_cursor_name_L0 F y1 F y1.1 0 [])
    (fun e=>some e) fun v4 =>
  call (strings_Builder_Len F v4) fun y5 =>
  bif (y5.1 == (0:Int)) then
    some ([],(5:Int),y1.2.1,y1.2.2)
  else
    chk (y5.2.length≤9223372036854775807) <|
    call (token_limited F y5.2 (31:Int)) fun y6 =>
    some (y6.1,y6.2,y1.2.1,y1.2.2)
/-- printworks/token.reference$1 -/
def token_reference_c1 (F:Nat) (a0:Int):Option Bool :=
  some (bif (decide (a0 < (48:Int))) then true else (decide (a0 > (57:Int))))
/-- printworks/token.reference -/
def token_reference (F:Nat) (a0:List UInt8):Option (Int×Int) :=
  chk ((((bif (a0 == []) then true else (decide ((a0.length:Int) > (3:Int)))) == false) && true)=true→0≤(0:Int)∧(0:Int) < a0.length) <|
  lett ((bif (((a0.getD (0:Int).toNat 0).toNat:Int) == (48:Int)) then (decide ((a0.length:Int) > (1:Int))) else false)) fun z1 =>
  call ((bif (((bif (bif (a0 == []) then true else (decide ((a0.length:Int) > (3:Int)))) then true else z1) == false) && true) then tContains (fun x=>token_reference_c1 F x) a0 else some false)) fun y1 =>
  lett ((bif (bif (bif (a0 == []) then true else (decide ((a0.length:Int) > (3:Int)))) then true else z1) then true else y1)) fun z2 =>
  bif z2 then
    some ((0:Int),(5:Int))
  else
    chk (a0.length≤9223372036854775806) <|
    call (sAtoi a0) fun y2 =>
    bif (bif (decide (y2 < (1:Int))) then true else (decide (y2 > (255:Int)))) then
      some ((0:Int),(3:Int))
    else
      some (y2,(0:Int))
/-- (*printworks/token.cursor).escape -/
def token_cursor_escape (F:Nat) (c0:List UInt8) (c1:Int) (c2:List UInt8):Option (Int×(List UInt8)×Int×(List UInt8)) :=
  bif (c1 == (c0.length:Int)) then
    some ((12:Int),c0,c1,c2)
  else
    chk (0≤c1∧c1 < c0.length) <|
    callE (bif (((c0.getD c1.toNat 0).toNat:Int) == (10:Int)) then
        some (.esc ((0:Int),c0,IntKind.i64.wrap (c1+(1:Int)),c2))
      else
        bif (((c0.getD c1.toNat 0).toNat:Int) == (110:Int)) then
          some (.go ((10:Int),c0,IntKind.i64.wrap (c1+(1:Int))))
        else
          bif (((c0.getD c1.toNat 0).toNat:Int) == (116:Int)) then
            some (.go ((9:Int),c0,IntKind.i64.wrap (c1+(1:Int))))
          else
            call (bif (((c0.getD c1.toNat 0).toNat:Int) == (92:Int)) then
                some (((c0.getD c1.toNat 0).toNat:Int) == (92:Int))
              else
                bif (((c0.getD c1.toNat 0).toNat:Int) == (40:Int)) then
                  some (((c0.getD c1.toNat 0).toNat:Int) == (40:Int))
                else
                  some (((c0.getD c1.toNat 0).toNat:Int) == (41:Int)))
              fun v1 =>
            bif v1 then
              some (.go (((c0.getD c1.toNat 0).toNat:Int),c0,IntKind.i64.wrap (c1+(1:Int))))
            else
              bif (((c0.getD c1.toNat 0).toNat:Int) == (120:Int)) then
                call (token_cursor_pair F c0 (IntKind.i64.wrap (c1+(1:Int)))) fun y1 =>
                bif (!y1.2.1) then
                  some (.esc ((5:Int),y1.2.2.1,y1.2.2.2,c2))
                else
                  some (.go (y1.1,y1.2.2.1,y1.2.2.2))
              else
                some (.esc ((5:Int),c0,IntKind.i64.wrap (c1+(1:Int)),c2)))
      (fun e=>some e) fun (v2,v3,v4) =>
    call (strings_Builder_WriteByte F v2 c2) fun y2 =>
    some ((0:Int),v3,v4,y2.2)
def token_cursor_text_L0 (F:Nat)  : Nat→(List UInt8)→(List UInt8)→Int→Int→Option (Out ((List UInt8)×Int) ((List UInt8)×Int×(List UInt8)×Int))
  | 0,_,_,_,_=>none
  | n+1,v1,v2,v3,v4 =>
    bif (decide (v3 < (v2.length:Int))) then
      chk (0≤v3∧v3 < v2.length) <|
      callE (bif (((v2.getD v3.toNat 0).toNat:Int) == (92:Int)) then
          call (token_cursor_escape F v2 (IntKind.i64.wrap (v3+(1:Int))) v1) fun y1 =>
          bif (y1.1 != (0:Int)) then
            some (.esc (.inr ([],y1.1,y1.2.1,y1.2.2.1)))
          else
            some (.esc (.inl (y1.2.2.2,y1.2.1,y1.2.2.1,v4)))
        else
          bif (((v2.getD v3.toNat 0).toNat:Int) == (40:Int)) then
            bif (decide ((IntKind.i64.wrap (v4+(1:Int))) > (16:Int))) then
              some (.esc (.inr ([],(15:Int),v2,IntKind.i64.wrap (v3+(1:Int)))))
            else
              some (.go (IntKind.i64.wrap (v4+(1:Int))))
          else
            bif (((v2.getD v3.toNat 0).toNat:Int) == (41:Int)) then
              some (.go (IntKind.i64.wrap (v4 - (1:Int))))
            else
              some (.go v4))
        (Sum.elim (fun e=>token_cursor_text_L0 F n e.1 e.2.1 e.2.2.1 e.2.2.2) (fun e=>some (.esc e))) fun v5 =>
      bif (v5 == (0:Int)) then
        chk (v1.length≤9223372036854775807) <|
        call (token_limited F v1 (1024:Int)) fun y2 =>
        some (.esc (y2.1,y2.2,v2,IntKind.i64.wrap (v3+(1:Int))))
      else
        call (strings_Builder_WriteByte F ((v2.getD v3.toNat 0).toNat:Int) v1) fun y3 =>
        token_cursor_text_L0 F n y3.2 v2 (IntKind.i64.wrap (v3+(1:Int))) v5
    else
      some (.go (v2,v3))
/-- (*printworks/token.cursor).text -/
def token_cursor_text (F:Nat) (c0:List UInt8) (c1:Int):Option ((List UInt8)×Int×(List UInt8)×Int) :=
  callE (token_cursor_text_L0 F F [] c0 c1 (1:Int))
    (fun e=>some e) fun (v6,v7) =>
  some ([],(12:Int),v6,v7)
def token_cursor_hex_L0 (F:Nat) (c0:List UInt8):Nat→Int→(List UInt8)→Int→Int→Option (Out Int ((List UInt8)×Int×(List UInt8)×Int))
  | 0,_,_,_,_=>none
  | n+1,v1,v2,v3,v4 =>
    bif (decide (v1 < (c0.length:Int))) then
      chk (0≤v1∧v1 < c0.length) <|
      call (token_white F ((c0.getD v1.toNat 0).toNat:Int)) fun y1 =>
      bif y1 then
        token_cursor_hex_L0 F c0 n (IntKind.i64.wrap (v1+(1:Int))) v2 v3 v4
      else
        lett ((bif (((c0.getD v1.toNat 0).toNat:Int) == (62:Int)) then ((v4.tmod (2:Int)) == (0:Int)) else false)) fun z1 =>
        bif z1 then
          chk (v2.length≤9223372036854775807) <|
          call (token_limited F v2 (1024:Int)) fun y2 =>
          some (.esc (y2.1,y2.2,c0,IntKind.i64.wrap (v1+(1:Int))))
        else
          call (token_hexDigit F ((c0.getD v1.toNat 0).toNat:Int)) fun y3 =>
          bif (!y3.2) then
            some (.esc ([],(5:Int),c0,IntKind.i64.wrap (v1+(1:Int))))
          else
            call (bif (((IntKind.i64.wrap (v4+(1:Int))).tmod (2:Int)) == (0:Int)) then
                lett (IntKind.u8.wrap ((BitVec.ofInt IntKind.u8.bits (IntKind.u8.wrap (v3 * 2 ^ (min (4:Int).toNat IntKind.u8.bits))) ||| BitVec.ofInt IntKind.u8.bits y3.1).toNat:Int)) fun z2 =>
                call (strings_Builder_WriteByte F z2 v2) fun y4 =>
                some y4.2
              else
                some v2)
              fun v5 =>
            token_cursor_hex_L0 F c0 n (IntKind.i64.wrap (v1+(1:Int))) v5 y3.1 (IntKind.i64.wrap (v4+(1:Int)))
    else
      some (.go v1)
/-- (*printworks/token.cursor).hex -/
def token_cursor_hex (F:Nat) (c0:List UInt8) (c1:Int):Option ((List UInt8)×Int×(List UInt8)×Int) :=
  callE (token_cursor_hex_L0 F c0 F c1 [] (0:Int) (0:Int))
    (fun e=>some e) fun v6 =>
  some ([],(12:Int),c0,v6)
/-- (*printworks/token.cursor).one -/
def token_cursor_one (F:Nat) (c0:List UInt8) (c1:Int):Option (S_Token×Int×(List UInt8)×Int) :=
  chk (0≤c1∧c1 < c0.length) <|
  lett ((bif (((c0.getD c1.toNat 0).toNat:Int) == (43:Int)) then true else (((c0.getD c1.toNat 0).toNat:Int) == (45:Int)))) fun z1 =>
  call ((bif ((z1 == false) && true) then token_digit F ((c0.getD c1.toNat 0).toNat:Int) else some false)) fun y1 =>
  bif (bif z1 then true else y1) then
    call (token_cursor_run F c0 c1) fun y2 =>
    call (token_integer F y2.1) fun y3 =>
    some ((S_Token.mk (1:Int) y3.1 [] 0 0),y3.2,y2.2.1,y2.2.2)
  else
    call (token_regular F ((c0.getD c1.toNat 0).toNat:Int)) fun y4 =>
    bif y4 then
      call (token_cursor_run F c0 c1) fun y5 =>
      call (token_word F y5.1) fun y6 =>
      some ((S_Token.mk (5:Int) 0 y6.1 0 0),y6.2,y5.2.1,y5.2.2)
    else
      chk ((((decide ((IntKind.i64.wrap (c1+(1:Int))) < (c0.length:Int))) == true) && true)=true→0≤(IntKind.i64.wrap (c1+(1:Int)))∧(IntKind.i64.wrap (c1+(1:Int))) < c0.length) <|
      lett ((((c0.getD (IntKind.i64.wrap (c1+(1:Int))).toNat 0).toNat:Int) == ((c0.getD c1.toNat 0).toNat:Int))) fun z2 =>
      callE (bif (((c0.getD c1.toNat 0).toNat:Int) == (47:Int)) then
          call (token_cursor_name F c0 (IntKind.i64.wrap (c1+(1:Int)))) fun y7 =>
          some (.go ((2:Int),0,y7.1,y7.2.1,y7.2.2.1,y7.2.2.2))
        else
          bif (((c0.getD c1.toNat 0).toNat:Int) == (64:Int)) then
            call (token_cursor_run F c0 (IntKind.i64.wrap (c1+(1:Int)))) fun y8 =>
            call (token_reference F y8.1) fun y9 =>
            some (.go ((4:Int),y9.1,[],y9.2,y8.2.1,y8.2.2))
          else
            bif (((c0.getD c1.toNat 0).toNat:Int) == (40:Int)) then
              call (token_cursor_text F c0 (IntKind.i64.wrap (c1+(1:Int)))) fun y10 =>
              some (.go ((3:Int),0,y10.1,y10.2.1,y10.2.2.1,y10.2.2.2))
            else
              bif (((c0.getD c1.toNat 0).toNat:Int) == (91:Int)) then
                some (.go ((6:Int),0,[],(0:Int),c0,IntKind.i64.wrap (c1+(1:Int))))
              else
                bif (((c0.getD c1.toNat 0).toNat:Int) == (93:Int)) then
                  some (.go ((7:Int),0,[],(0:Int),c0,IntKind.i64.wrap (c1+(1:Int))))
                else
                  bif (((c0.getD c1.toNat 0).toNat:Int) == (60:Int)) then
                    bif (bif (decide ((IntKind.i64.wrap (c1+(1:Int))) < (c0.length:Int))) then z2 else false) then
                      some (.go ((8:Int),0,[],(0:Int),c0,IntKind.i64.wrap ((IntKind.i64.wrap (c1+(1:Int)))+(1:Int))))
                    else
                      call (token_cursor_hex F c0 (IntKind.i64.wrap (c1+(1:Int)))) fun y11 =>
                      some (.go ((3:Int),0,y11.1,y11.2.1,y11.2.2.1,y11.2.2.2))
                  else
                    bif (((c0.getD c1.toNat 0).toNat:Int) == (62:Int)) then
                      bif (!(bif (decide ((IntKind.i64.wrap (c1+(1:Int))) < (c0.length:Int))) then z2 else false)) then
                        some (.esc ((S_Token.mk 0 0 [] 0 0),(5:Int),c0,IntKind.i64.wrap (c1+(1:Int))))
                      else
                        some (.go ((9:Int),0,[],(0:Int),c0,IntKind.i64.wrap ((IntKind.i64.wrap (c1+(1:Int)))+(1:Int))))
                    else
                      some (.esc ((S_Token.mk 0 0 [] 0 0),(5:Int),c0,IntKind.i64.wrap (c1+(1:Int)))))
        (fun e=>some e) fun (v1,v2,v3,v4,v5,v6) =>
      some ((S_Token.mk v1 v2 v3 0 0),v4,v5,v6)
/-- printworks/token.next -/
def token_next (F:Nat) (a0:List UInt8) (a1:Int):Option (S_Token×Int×Int) :=
  call (token_cursor_skip F a0 a1) fun y1 =>
  bif (y1.2 == (a0.length:Int)) then
    some ((S_Token.mk 0 0 [] y1.2 y1.2),y1.2,(0:Int))
  else
    call (token_cursor_one F y1.1 y1.2) fun y2 =>
    bif (y2.2.1 != (0:Int)) then
      some ((S_Token.mk 0 0 [] 0 0),y1.2,y2.2.1)
    else
      some ((S_Token.mk y2.1.f0 y2.1.f1 y2.1.f2 y1.2 y2.2.2.2),y1.2,(0:Int))
/-- printworks/token.Next -/
def token_Next (F:Nat) (a0:List UInt8) (a1:Int):Option (S_Token×Int×Int) :=
  bif (decide ((a0.length:Int) > (8192:Int))) then
    some ((S_Token.mk 0 0 [] 0 0),(0:Int),(2:Int))
  else
    bif (bif (decide (a1 < (0:Int))) then true else (decide (a1 > (a0.length:Int)))) then
      some ((S_Token.mk 0 0 [] 0 0),(0:Int),(3:Int))
    else
      call (token_next F a0 a1) fun y1 =>
      call (bif (y1.2.2 == (0:Int)) then
          some (0:Int)
        else
          some y1.2.1)
        fun v1 =>
      some (y1.1,v1,y1.2.2)
/-- printworks/object.fail -/
def object_fail (F:Nat) (a0:Int) (a1:Int):Option Unit :=
  none
/-- (*printworks/object.parser).advance -/
def object_parser_advance (F:Nat) (c0:List UInt8) (c1:Int) (c2:Int) (c3:List UInt8) (c4:Int) (c5:Int):Option ((List UInt8)×Int×Int×(List UInt8)×Int×Int) :=
  call (token_Next F c0 c5) fun y1 =>
  call (bif (y1.2.2 != (0:Int)) then
      call (object_fail F y1.2.1 y1.2.2) fun y2 =>
      some ()
    else
      some ())
    fun _ =>
  some (c0,y1.1.f0,y1.1.f1,y1.1.f2,y1.1.f3,y1.1.f4)
/-- (*printworks/object.parser).more -/
def object_parser_more (F:Nat) (a0:Int) (a1:Int) (c2:List UInt8) (c3:Int) (c4:Int) (c5:List UInt8) (c6:Int) (c7:Int):Option (Bool×(List UInt8)×Int×Int×(List UInt8)×Int×Int) :=
  call (object_parser_advance F c2 c3 c4 c5 c6 c7) fun y1 =>
  callE (bif (y1.2.1 == a0) then
      some (.esc (false,y1.1,y1.2.1,y1.2.2.1,y1.2.2.2.1,y1.2.2.2.2.1,y1.2.2.2.2.2))
    else
      bif (y1.2.1 == (0:Int)) then
        call (object_fail F y1.2.2.2.2.1 (12:Int)) fun y2 =>
        some (.go ())
      else
        bif (a1 == (256:Int)) then
          call (object_fail F y1.2.2.2.2.1 (2:Int)) fun y3 =>
          some (.go ())
        else
          some (.go ()))
    (fun e=>some e) fun _ =>
  some (true,y1.1,y1.2.1,y1.2.2.1,y1.2.2.2.1,y1.2.2.2.2.1,y1.2.2.2.2.2)
def object_parser_list_L0 (F:Nat) (a0:Int) (rec_object_parser_object:Int→(List UInt8)→Int→Int→(List UInt8)→Int→Int→Option (S_Object×(List UInt8)×Int×Int×(List UInt8)×Int×Int)):Nat→(List S_Object)→(List UInt8)→Int→Int→(List UInt8)→Int→Int→Option ((List S_Object)×(List UInt8)×Int×Int×(List UInt8)×Int×Int)
  | 0,_,_,_,_,_,_,_=>none
  | n+1,v1,v2,v3,v4,v5,v6,v7 =>
    call (object_parser_more F (7:Int) (v1.length:Int) v2 v3 v4 v5 v6 v7) fun y1 =>
    bif y1.1 then
      call (rec_object_parser_object (IntKind.i64.wrap (a0+(1:Int))) y1.2.1 y1.2.2.1 y1.2.2.2.1 y1.2.2.2.2.1 y1.2.2.2.2.2.1 y1.2.2.2.2.2.2) fun y2 =>
      chk (v1.length+([y2.1]).length≤4294967296) <|
      object_parser_list_L0 F a0 rec_object_parser_object n (v1++([y2.1])) y2.2.1 y2.2.2.1 y2.2.2.2.1 y2.2.2.2.2.1 y2.2.2.2.2.2.1 y2.2.2.2.2.2.2
    else
      some (v1,y1.2.1,y1.2.2.1,y1.2.2.2.1,y1.2.2.2.2.1,y1.2.2.2.2.2.1,y1.2.2.2.2.2.2)
/-- (*printworks/object.parser).list -/
def object_parser_list (F:Nat) (rec_object_parser_object:Int→(List UInt8)→Int→Int→(List UInt8)→Int→Int→Option (S_Object×(List UInt8)×Int×Int×(List UInt8)×Int×Int)) (a0:Int) (c1:List UInt8) (c2:Int) (c3:Int) (c4:List UInt8) (c5:Int) (c6:Int):Option (S_Object×(List UInt8)×Int×Int×(List UInt8)×Int×Int) :=
  call (object_parser_list_L0 F a0 rec_object_parser_object F [] c1 c2 c3 c4 c5 c6)
    fun (v8,v9,v10,v11,v12,v13,v14) =>
  some ((S_Object.mk (6:Int) 0 [] [] v8),v9,v10,v11,v12,v13,v14)
/-- cmp.isNaN[string] -/
def cmp_isNaN_string (F:Nat) (a0:List UInt8):Option Bool :=
  some (!(a0 == a0))
/-- cmp.Less[string] -/
def cmp_Less_string (F:Nat) (a0:List UInt8) (a1:List UInt8):Option Bool :=
  call (cmp_isNaN_string F a0) fun y1 =>
  call ((bif ((y1 == true) && true) then cmp_isNaN_string F a1 else some false)) fun y2 =>
  some (bif (bif y1 then (!y2) else false) then true else (Op.bytesLess a0 a1))
/-- slices.isNaN[string] -/
def slices_isNaN_string (F:Nat) (a0:List UInt8):Option Bool :=
  some (!(a0 == a0))
def slices_BinarySearch_string_L0 (F:Nat) (a0:List (List UInt8)) (a1:List UInt8):Nat→Int→Int→Option Int
  | 0,_,_=>none
  | n+1,v1,v2 =>
    bif (decide (v1 < v2)) then
      lett (((IntKind.u64.wrap (IntKind.i64.wrap (v1+v2))).fdiv (2 ^ (min (1:Int).toNat IntKind.u64.bits)))) fun z1 =>
      chk (0≤(IntKind.i64.wrap z1)∧(IntKind.i64.wrap z1) < a0.length) <|
      call (cmp_Less_string F (a0.getD (IntKind.i64.wrap z1).toNat []) a1) fun y1 =>
      bif y1 then
        slices_BinarySearch_string_L0 F a0 a1 n (IntKind.i64.wrap ((IntKind.i64.wrap z1)+(1:Int))) v2
      else
        slices_BinarySearch_string_L0 F a0 a1 n v1 (IntKind.i64.wrap z1)
    else
      some v1
/-- slices.BinarySearch[[]string,string] -/
def slices_BinarySearch_string (F:Nat) (a0:List (List UInt8)) (a1:List UInt8):Option (Int×Bool) :=
  call (slices_BinarySearch_string_L0 F a0 a1 F (0:Int) (a0.length:Int))
    fun v3 =>
  chk ((((decide (v3 < (a0.length:Int))) == true) && true)=true→0≤v3∧v3 < a0.length) <|
  chk (((((a0.getD v3.toNat []) == a1) == false) && (((decide (v3 < (a0.length:Int))) == true) && true))=true→0≤v3∧v3 < a0.length) <|
  call ((bif ((((a0.getD v3.toNat []) == a1) == false) && (((decide (v3 < (a0.length:Int))) == true) && true)) then slices_isNaN_string F (a0.getD v3.toNat []) else some false)) fun y2 =>
  call ((bif ((y2 == true) && ((((a0.getD v3.toNat []) == a1) == false) && (((decide (v3 < (a0.length:Int))) == true) && true))) then slices_isNaN_string F a1 else some false)) fun y3 =>
  lett ((bif (decide (v3 < (a0.length:Int))) then (bif ((a0.getD v3.toNat []) == a1) then true else (bif y2 then y3 else false)) else false)) fun z2 =>
  some (v3,z2)
def object_parser_dict_L0 (F:Nat) (a0:Int) (rec_object_parser_object:Int→(List UInt8)→Int→Int→(List UInt8)→Int→Int→Option (S_Object×(List UInt8)×Int×Int×(List UInt8)×Int×Int)):Nat→(List (List UInt8))→(List S_Object)→(List UInt8)→Int→Int→(List UInt8)→Int→Int→Option ((List (List UInt8))×(List S_Object)×(List UInt8)×Int×Int×(List UInt8)×Int×Int)
  | 0,_,_,_,_,_,_,_,_=>none
  | n+1,v1,v2,v3,v4,v5,v6,v7,v8 =>
    call (object_parser_more F (9:Int) (v2.length:Int) v3 v4 v5 v6 v7 v8) fun y1 =>
    bif y1.1 then
      call (slices_BinarySearch_string F v1 y1.2.2.2.2.1) fun y2 =>
      call (bif (y1.2.2.1 != (2:Int)) then
          call (object_fail F y1.2.2.2.2.2.1 (5:Int)) fun y3 =>
          some ()
        else
          some ())
        fun _ =>
      call (bif y2.2 then
          call (object_fail F y1.2.2.2.2.2.1 (7:Int)) fun y4 =>
          some ()
        else
          some ())
        fun _ =>
      call (object_parser_advance F y1.2.1 y1.2.2.1 y1.2.2.2.1 y1.2.2.2.2.1 y1.2.2.2.2.2.1 y1.2.2.2.2.2.2) fun y5 =>
      call (rec_object_parser_object (IntKind.i64.wrap (a0+(1:Int))) y5.1 y5.2.1 y5.2.2.1 y5.2.2.2.1 y5.2.2.2.2.1 y5.2.2.2.2.2) fun y6 =>
      chk (0≤y2.1∧y2.1≤(v1.length:Int)∧v1.length+1≤4294967296) <|
      chk (0≤y2.1∧y2.1≤(v2.length:Int)∧v2.length+1≤4294967296) <|
      object_parser_dict_L0 F a0 rec_object_parser_object n (v1.take y2.1.toNat++([y1.2.2.2.2.1])++v1.drop y2.1.toNat) (v2.take y2.1.toNat++([y6.1])++v2.drop y2.1.toNat) y6.2.1 y6.2.2.1 y6.2.2.2.1 y6.2.2.2.2.1 y6.2.2.2.2.2.1 y6.2.2.2.2.2.2
    else
      some (v1,v2,y1.2.1,y1.2.2.1,y1.2.2.2.1,y1.2.2.2.2.1,y1.2.2.2.2.2.1,y1.2.2.2.2.2.2)
/-- (*printworks/object.parser).dict -/
def object_parser_dict (F:Nat) (rec_object_parser_object:Int→(List UInt8)→Int→Int→(List UInt8)→Int→Int→Option (S_Object×(List UInt8)×Int×Int×(List UInt8)×Int×Int)) (a0:Int) (c1:List UInt8) (c2:Int) (c3:Int) (c4:List UInt8) (c5:Int) (c6:Int):Option (S_Object×(List UInt8)×Int×Int×(List UInt8)×Int×Int) :=
  call (object_parser_dict_L0 F a0 rec_object_parser_object F [] [] c1 c2 c3 c4 c5 c6)
    fun (v9,v10,v11,v12,v13,v14,v15,v16) =>
  some ((S_Object.mk (7:Int) 0 [] v9 v10),v11,v12,v13,v14,v15,v16)
/-- (*printworks/object.parser).leaf -/
def object_parser_leaf (F:Nat) (c0:List UInt8) (c1:Int) (c2:Int) (c3:List UInt8) (c4:Int) (c5:Int):Option (S_Object×(List UInt8)×Int×Int×(List UInt8)×Int×Int) :=
  bif (c1 == (1:Int)) then
    some ((S_Object.mk (2:Int) c2 [] [] []),c0,c1,c2,c3,c4,c5)
  else
    bif (c1 == (2:Int)) then
      some ((S_Object.mk (3:Int) 0 c3 [] []),c0,c1,c2,c3,c4,c5)
    else
      bif (c1 == (3:Int)) then
        some ((S_Object.mk (4:Int) 0 c3 [] []),c0,c1,c2,c3,c4,c5)
      else
        bif (c1 == (4:Int)) then
          some ((S_Object.mk (5:Int) c2 [] [] []),c0,c1,c2,c3,c4,c5)
        else
          bif (c3 == ([110,117,108,108]:List UInt8)) then
            some ((S_Object.mk 0 0 [] [] []),c0,c1,c2,c3,c4,c5)
          else
            bif (c3 == ([116,114,117,101]:List UInt8)) then
              some ((S_Object.mk (1:Int) (1:Int) [] [] []),c0,c1,c2,c3,c4,c5)
            else
              bif (c3 == ([102,97,108,115,101]:List UInt8)) then
                some ((S_Object.mk (1:Int) 0 [] [] []),c0,c1,c2,c3,c4,c5)
              else
                call (object_fail F c4 (6:Int)) fun y1 =>
                some ((S_Object.mk 0 0 [] [] []),c0,c1,c2,c3,c4,c5)
/-- (*printworks/object.parser).object -/
def object_parser_object_body (F:Nat) (rec_object_parser_object:Int→(List UInt8)→Int→Int→(List UInt8)→Int→Int→Option (S_Object×(List UInt8)×Int×Int×(List UInt8)×Int×Int)) (a0:Int) (c1:List UInt8) (c2:Int) (c3:Int) (c4:List UInt8) (c5:Int) (c6:Int):Option (S_Object×(List UInt8)×Int×Int×(List UInt8)×Int×Int) :=
  callE (bif (c2 == (0:Int)) then
      call (object_fail F c5 (12:Int)) fun y1 =>
      some (.go ())
    else
      bif (bif (c2 == (7:Int)) then true else (c2 == (9:Int))) then
        call (object_fail F c5 (5:Int)) fun y2 =>
        some (.go ())
      else
        bif (decide (a0 > (12:Int))) then
          call (object_fail F c5 (15:Int)) fun y3 =>
          some (.go ())
        else
          bif (c2 == (6:Int)) then
            call (object_parser_list F rec_object_parser_object a0 c1 c2 c3 c4 c5 c6) fun y4 =>
            some (.esc (y4.1,y4.2.1,y4.2.2.1,y4.2.2.2.1,y4.2.2.2.2.1,y4.2.2.2.2.2.1,y4.2.2.2.2.2.2))
          else
            bif (c2 == (8:Int)) then
              call (object_parser_dict F rec_object_parser_object a0 c1 c2 c3 c4 c5 c6) fun y5 =>
              some (.esc (y5.1,y5.2.1,y5.2.2.1,y5.2.2.2.1,y5.2.2.2.2.1,y5.2.2.2.2.2.1,y5.2.2.2.2.2.2))
            else
              some (.go ()))
    (fun e=>some e) fun _ =>
  call (object_parser_leaf F c1 c2 c3 c4 c5 c6) fun y6 =>
  some (y6.1,y6.2.1,y6.2.2.1,y6.2.2.2.1,y6.2.2.2.2.1,y6.2.2.2.2.2.1,y6.2.2.2.2.2.2)
def object_parser_object_fuel (F:Nat):Nat→Int→(List UInt8)→Int→Int→(List UInt8)→Int→Int→Option (S_Object×(List UInt8)×Int×Int×(List UInt8)×Int×Int)
  | 0=>fun _ _ _ _ _ _ _=>none
  | n+1=>object_parser_object_body F (object_parser_object_fuel F n)
def object_parser_object (F:Nat) (a0:Int) (c1:List UInt8) (c2:Int) (c3:Int) (c4:List UInt8) (c5:Int) (c6:Int):Option (S_Object×(List UInt8)×Int×Int×(List UInt8)×Int×Int):=object_parser_object_fuel F F a0 c1 c2 c3 c4 c5 c6
/-- printworks/token.bad -/
def token_bad (F:Nat) (a0:Int):Option Int :=
  bif (a0 == (5:Int)) then
    some (4:Int)
  else
    some a0
/-- printworks/token.check -/
def token_check (F:Nat) (a0:S_Token):Option Int :=
  lett ((bif (bif (a0.f0 == (2:Int)) then true else (a0.f0 == (3:Int))) then true else (a0.f0 == (5:Int)))) fun z1 =>
  callE (bif (bif (decide (a0.f0 < (1:Int))) then true else (decide (a0.f0 > (9:Int)))) then
      some (.esc (14:Int))
    else
      call (lett ((bif (a0.f1 != (0:Int)) then (!(bif (a0.f0 == (1:Int)) then true else (a0.f0 == (4:Int)))) else false)) fun z2 =>
        bif z2 then
          some z2
        else
          some (bif (!(a0.f2 == [])) then (!z1) else false))
        fun v1 =>
      bif v1 then
        some (.esc (4:Int))
      else
        lett ((bif (a0.f2 == []) then true else (decide ((Lib.indexByte a0.f2 (0:Int).toNat.toUInt8) ≥ (0:Int))))) fun z3 =>
        bif (bif (a0.f0 == (2:Int)) then z3 else false) then
          some (.esc (4:Int))
        else
          lett ((bif (a0.f0 == (1:Int)) then (bif (decide (a0.f1 < (-2147483647:Int))) then true else (decide (a0.f1 > (2147483647:Int)))) else false)) fun z4 =>
          bif z4 then
            some (.esc (3:Int))
          else
            lett ((bif (a0.f0 == (4:Int)) then (bif (decide (a0.f1 < (1:Int))) then true else (decide (a0.f1 > (255:Int)))) else false)) fun z5 =>
            bif z5 then
              some (.esc (3:Int))
            else
              call (bif (bif (a0.f0 == (2:Int)) then (decide ((a0.f2.length:Int) > (31:Int))) else false) then
                  some (bif (a0.f0 == (2:Int)) then (decide ((a0.f2.length:Int) > (31:Int))) else false)
                else
                  some (bif (decide ((a0.f2.length:Int) > (1024:Int))) then (a0.f0 == (3:Int)) else false))
                fun v2 =>
              bif v2 then
                some (.esc (2:Int))
              else
                bif (a0.f0 == (5:Int)) then
                  call (token_word F a0.f2) fun y1 =>
                  bif (y1.2 != (0:Int)) then
                    call (token_bad F y1.2) fun y2 =>
                    some (.esc y2)
                  else
                    some (.go ())
                else
                  some (.go ()))
    (fun e=>some e) fun _ =>
  some (0:Int)
def token_printedName_L0 (F:Nat) (a0:List UInt8):Nat→(List UInt8)→Int→Option ((List UInt8))
  | 0,_,_=>none
  | n+1,v1,v2 =>
    bif (decide (v2 < (a0.length:Int))) then
      call (chk (0≤v2∧v2 < a0.length) <|
        call (token_letter F ((a0.getD v2.toNat 0).toNat:Int)) fun y1 =>
        call ((bif ((y1 == false) && true) then token_digit F ((a0.getD v2.toNat 0).toNat:Int) else some false)) fun y2 =>
        lett ((bif (bif y1 then true else y2) then true else (((a0.getD v2.toNat 0).toNat:Int) == (95:Int)))) fun z1 =>
        lett ((bif (bif z1 then true else (((a0.getD v2.toNat 0).toNat:Int) == (45:Int))) then true else (((a0.getD v2.toNat 0).toNat:Int) == (46:Int)))) fun z2 =>
        bif z2 then
          call (strings_Builder_WriteByte F ((a0.getD v2.toNat 0).toNat:Int) v1) fun y3 =>
          some y3.2
        else
          call (strings_Builder_WriteByte F (35:Int) v1) fun y4 =>
          chk (0≤(((a0.getD v2.toNat 0).toNat:Int).fdiv (2 ^ (min (4:Int).toNat IntKind.u8.bits)))∧(((a0.getD v2.toNat 0).toNat:Int).fdiv (2 ^ (min (4:Int).toNat IntKind.u8.bits))) < ([48,49,50,51,52,53,54,55,56,57,97,98,99,100,101,102]:List UInt8).length) <|
          lett (((([48,49,50,51,52,53,54,55,56,57,97,98,99,100,101,102]:List UInt8).getD (((a0.getD v2.toNat 0).toNat:Int).fdiv (2 ^ (min (4:Int).toNat IntKind.u8.bits))).toNat 0).toNat:Int)) fun z3 =>
          call (strings_Builder_WriteByte F z3 y4.2) fun y5 =>
          lett (IntKind.u8.wrap ((BitVec.ofInt IntKind.u8.bits ((a0.getD v2.toNat 0).toNat:Int) &&& BitVec.ofInt IntKind.u8.bits (15:Int)).toNat:Int)) fun z4 =>
          chk (0≤z4∧z4 < ([48,49,50,51,52,53,54,55,56,57,97,98,99,100,101,102]:List UInt8).length) <|
          lett (((([48,49,50,51,52,53,54,55,56,57,97,98,99,100,101,102]:List UInt8).getD z4.toNat 0).toNat:Int)) fun z5 =>
          call (strings_Builder_WriteByte F z5 y5.2) fun y6 =>
          some y6.2)
        fun v3 =>
      token_printedName_L0 F a0 n v3 (IntKind.i64.wrap (v2+(1:Int)))
    else
      some v1
/-- printworks/token.printedName -/
def token_printedName (F:Nat) (a0:List UInt8):Option ((List UInt8)) :=
  call (token_printedName_L0 F a0 F [] (0:Int))
    fun v4 =>
  chk (v4.length≤9223372036854775807) <|
  some v4
/-- (*strings.Builder).WriteString -/
def strings_Builder_WriteString (F:Nat) (a0:List UInt8) (c1:List UInt8):Option (Int×Unit×(List UInt8)) :=
  chk (c1.length+a0.length≤4294967296) <|
  some ((a0.length:Int),(),(c1++a0))
def token_printedText_L0 (F:Nat) (a0:List UInt8):Nat→(List UInt8)→Int→Option ((List UInt8))
  | 0,_,_=>none
  | n+1,v1,v2 =>
    bif (decide (v2 < (a0.length:Int))) then
      call (chk (0≤v2∧v2 < a0.length) <|
        bif (((a0.getD v2.toNat 0).toNat:Int) == (10:Int)) then
          call (strings_Builder_WriteString F ([92,110]:List UInt8) v1) fun y1 =>
          some y1.2.2
        else
          bif (((a0.getD v2.toNat 0).toNat:Int) == (9:Int)) then
            call (strings_Builder_WriteString F ([92,116]:List UInt8) v1) fun y2 =>
            some y2.2.2
          else
            lett ((bif (((a0.getD v2.toNat 0).toNat:Int) == (40:Int)) then true else (((a0.getD v2.toNat 0).toNat:Int) == (41:Int)))) fun z1 =>
            bif (bif z1 then true else (((a0.getD v2.toNat 0).toNat:Int) == (92:Int))) then
              call (strings_Builder_WriteByte F (92:Int) v1) fun y3 =>
              call (strings_Builder_WriteByte F ((a0.getD v2.toNat 0).toNat:Int) y3.2) fun y4 =>
              some y4.2
            else
              lett ((bif (decide (((a0.getD v2.toNat 0).toNat:Int) < (32:Int))) then true else (decide (((a0.getD v2.toNat 0).toNat:Int) > (125:Int))))) fun z2 =>
              bif z2 then
                call (strings_Builder_WriteString F ([92,120]:List UInt8) v1) fun y5 =>
                chk (0≤(((a0.getD v2.toNat 0).toNat:Int).fdiv (2 ^ (min (4:Int).toNat IntKind.u8.bits)))∧(((a0.getD v2.toNat 0).toNat:Int).fdiv (2 ^ (min (4:Int).toNat IntKind.u8.bits))) < ([48,49,50,51,52,53,54,55,56,57,97,98,99,100,101,102]:List UInt8).length) <|
                lett (((([48,49,50,51,52,53,54,55,56,57,97,98,99,100,101,102]:List UInt8).getD (((a0.getD v2.toNat 0).toNat:Int).fdiv (2 ^ (min (4:Int).toNat IntKind.u8.bits))).toNat 0).toNat:Int)) fun z3 =>
                call (strings_Builder_WriteByte F z3 y5.2.2) fun y6 =>
                lett (IntKind.u8.wrap ((BitVec.ofInt IntKind.u8.bits ((a0.getD v2.toNat 0).toNat:Int) &&& BitVec.ofInt IntKind.u8.bits (15:Int)).toNat:Int)) fun z4 =>
                chk (0≤z4∧z4 < ([48,49,50,51,52,53,54,55,56,57,97,98,99,100,101,102]:List UInt8).length) <|
                lett (((([48,49,50,51,52,53,54,55,56,57,97,98,99,100,101,102]:List UInt8).getD z4.toNat 0).toNat:Int)) fun z5 =>
                call (strings_Builder_WriteByte F z5 y6.2) fun y7 =>
                some y7.2
              else
                call (strings_Builder_WriteByte F ((a0.getD v2.toNat 0).toNat:Int) v1) fun y8 =>
                some y8.2)
        fun v3 =>
      token_printedText_L0 F a0 n v3 (IntKind.i64.wrap (v2+(1:Int)))
    else
      some v1
/-- printworks/token.printedText -/
def token_printedText (F:Nat) (a0:List UInt8):Option ((List UInt8)) :=
  call (strings_Builder_WriteByte F (40:Int) []) fun y9 =>
  call (token_printedText_L0 F a0 F y9.2 (0:Int))
    fun v4 =>
  call (strings_Builder_WriteByte F (41:Int) v4) fun y10 =>
  chk (y10.2.length≤9223372036854775807) <|
  some y10.2
/-- printworks/token.Print -/
def token_Print (F:Nat) (a0:S_Token):Option ((List UInt8)×Int) :=
  call (token_check F a0) fun y1 =>
  bif (y1 != (0:Int)) then
    some ([],y1)
  else
    bif (a0.f0 == (1:Int)) then
      chk (-9223372036854775808≤a0.f1∧a0.f1≤9223372036854775807) <|
      some ((Lib.itoa a0.f1),(0:Int))
    else
      bif (a0.f0 == (2:Int)) then
        call (token_printedName F a0.f2) fun y2 =>
        chk (([47]:List UInt8).length+y2.length≤9223372036854775807) <|
        some ((([47]:List UInt8)++y2),(0:Int))
      else
        bif (a0.f0 == (3:Int)) then
          call (token_printedText F a0.f2) fun y3 =>
          some (y3,(0:Int))
        else
          bif (a0.f0 == (4:Int)) then
            chk (-9223372036854775808≤a0.f1∧a0.f1≤9223372036854775807) <|
            chk (([64]:List UInt8).length+(Lib.itoa a0.f1).length≤9223372036854775807) <|
            some ((([64]:List UInt8)++(Lib.itoa a0.f1)),(0:Int))
          else
            bif (a0.f0 == (5:Int)) then
              some (a0.f2,(0:Int))
            else
              chk (0≤(IntKind.i64.wrap (a0.f0 - (6:Int)))∧(IntKind.i64.wrap (a0.f0 - (6:Int))) < ([([91]:List UInt8),([93]:List UInt8),([60,60]:List UInt8),([62,62]:List UInt8)]).length) <|
              lett ((([([91]:List UInt8),([93]:List UInt8),([60,60]:List UInt8),([62,62]:List UInt8)]).getD (IntKind.i64.wrap (a0.f0 - (6:Int))).toNat [])) fun z1 =>
              some (z1,(0:Int))
def object_node_L1 (F:Nat) (a0:S_Object):Nat→Int→Option (Out Unit Int)
  | 0,_=>none
  | n+1,v1 =>
    bif (decide (v1 < (a0.f3.length:Int))) then
      chk (0≤v1∧v1 < a0.f3.length) <|
      call (token_Print F (S_Token.mk (2:Int) 0 (a0.f3.getD v1.toNat []) 0 0)) fun y1 =>
      bif (y1.2 != (0:Int)) then
        some (.esc y1.2)
      else
        chk ((((decide (v1 > (0:Int))) == true) && true)=true→0≤(IntKind.i64.wrap (v1 - (1:Int)))∧(IntKind.i64.wrap (v1 - (1:Int))) < a0.f3.length) <|
        lett ((!(Op.bytesLess (a0.f3.getD (IntKind.i64.wrap (v1 - (1:Int))).toNat []) (a0.f3.getD v1.toNat [])))) fun z1 =>
        bif (bif (decide (v1 > (0:Int))) then z1 else false) then
          some (.esc (4:Int))
        else
          object_node_L1 F a0 n (IntKind.i64.wrap (v1+(1:Int)))
    else
      some (.go ())
/-- printworks/object.node -/
def object_node (F:Nat) (a0:S_Object) (a1:Int):Option Int :=
  lett ((bif (bif (a0.f0 == (1:Int)) then true else (a0.f0 == (2:Int))) then true else (a0.f0 == (5:Int)))) fun z2 =>
  bif (bif (decide (a0.f0 < (0:Int))) then true else (decide (a0.f0 > (7:Int)))) then
    some (14:Int)
  else
    bif (decide (a1 > (12:Int))) then
      some (15:Int)
    else
      call (bif (bif (a0.f1 != (0:Int)) then (!z2) else false) then
          some (bif (a0.f1 != (0:Int)) then (!z2) else false)
        else
          lett ((bif (!(a0.f2 == [])) then (!(bif (a0.f0 == (3:Int)) then true else (a0.f0 == (4:Int)))) else false)) fun z3 =>
          bif z3 then
            some z3
          else
            lett ((bif (decide ((a0.f4.length:Int) > (0:Int))) then (!(bif (a0.f0 == (6:Int)) then true else (a0.f0 == (7:Int)))) else false)) fun z4 =>
            some z4)
        fun v2 =>
      bif v2 then
        some (4:Int)
      else
        call (bif (bif (a0.f0 == (7:Int)) then ((a0.f3.length:Int) != (a0.f4.length:Int)) else false) then
            some (bif (a0.f0 == (7:Int)) then ((a0.f3.length:Int) != (a0.f4.length:Int)) else false)
          else
            some (bif (a0.f0 != (7:Int)) then (decide ((a0.f3.length:Int) > (0:Int))) else false))
          fun v3 =>
        bif v3 then
          some (4:Int)
        else
          lett ((bif (bif (a0.f0 == (1:Int)) then (a0.f1 != (0:Int)) else false) then (a0.f1 != (1:Int)) else false)) fun z5 =>
          bif z5 then
            some (3:Int)
          else
            bif (decide ((a0.f4.length:Int) > (256:Int))) then
              some (2:Int)
            else
              callE (object_node_L1 F a0 F (0:Int))
                (fun e=>some e) fun _ =>
              some (0:Int)
/-- internal/strconv.FormatBool -/
def internal_strconv_FormatBool (F:Nat) (a0:Bool):Option ((List UInt8)) :=
  bif a0 then
    some ([116,114,117,101]:List UInt8)
  else
    some ([102,97,108,115,101]:List UInt8)
/-- strconv.FormatBool -/
def strconv_FormatBool (F:Nat) (a0:Bool):Option ((List UInt8)) :=
  call (internal_strconv_FormatBool F a0) fun y1 =>
  some y1
def object_printer_nested_L0 (F:Nat) (a0:S_Object) (a1:Int) (rec_object_printer_add:S_Object→Int→(List S_Token)→Int→Option (Int×(List S_Token)×Int)):Nat→Int→(List S_Token)→Int→Option (Out ((List S_Token)×Int) (Int×(List S_Token)×Int))
  | 0,_,_,_=>none
  | n+1,v1,v2,v3 =>
    bif (decide (v1 < (a0.f4.length:Int))) then
      chk (0≤v1∧v1 < a0.f4.length) <|
      call (bif (a0.f0 == (7:Int)) then
          chk (0≤v1∧v1 < a0.f3.length) <|
          chk (v2.length+([(S_Token.mk (2:Int) 0 (a0.f3.getD v1.toNat []) 0 0)]).length≤4294967296) <|
          some (v2++([(S_Token.mk (2:Int) 0 (a0.f3.getD v1.toNat []) 0 0)]))
        else
          some v2)
        fun v4 =>
      call (rec_object_printer_add (a0.f4.getD v1.toNat (S_Object.mk 0 0 [] [] [])) (IntKind.i64.wrap (a1+(1:Int))) v4 v3) fun y1 =>
      bif (y1.1 != (0:Int)) then
        some (.esc (y1.1,y1.2.1,y1.2.2))
      else
        object_printer_nested_L0 F a0 a1 rec_object_printer_add n (IntKind.i64.wrap (v1+(1:Int))) y1.2.1 y1.2.2
    else
      some (.go (v2,v3))
/-- (*printworks/object.printer).nested -/
def object_printer_nested (F:Nat) (rec_object_printer_add:S_Object→Int→(List S_Token)→Int→Option (Int×(List S_Token)×Int)) (a0:S_Object) (a1:Int) (c2:List S_Token) (c3:Int):Option (Int×(List S_Token)×Int) :=
  call (bif (a0.f0 == (7:Int)) then
      some ((8:Int),(9:Int))
    else
      some ((6:Int),(7:Int)))
    fun (v5,v6) =>
  chk (c2.length+([(S_Token.mk v5 0 [] 0 0)]).length≤4294967296) <|
  callE (object_printer_nested_L0 F a0 a1 rec_object_printer_add F (0:Int) (c2++([(S_Token.mk v5 0 [] 0 0)])) c3)
    (fun e=>some e) fun (v7,v8) =>
  chk (v7.length+([(S_Token.mk v6 0 [] 0 0)]).length≤4294967296) <|
  some ((0:Int),(v7++([(S_Token.mk v6 0 [] 0 0)])),v8)
/-- (*printworks/object.printer).add -/
def object_printer_add_body (F:Nat) (rec_object_printer_add:S_Object→Int→(List S_Token)→Int→Option (Int×(List S_Token)×Int)) (a0:S_Object) (a1:Int) (c2:List S_Token) (c3:Int):Option (Int×(List S_Token)×Int) :=
  bif (decide ((IntKind.i64.wrap (c3+(1:Int))) > (4096:Int))) then
    some ((2:Int),c2,IntKind.i64.wrap (c3+(1:Int)))
  else
    call (object_node F a0 a1) fun y1 =>
    bif (y1 != (0:Int)) then
      some (y1,c2,IntKind.i64.wrap (c3+(1:Int)))
    else
      callE (bif (a0.f0 == (0:Int)) then
          some (.go (([110,117,108,108]:List UInt8),(5:Int),0))
        else
          bif (a0.f0 == (1:Int)) then
            call (strconv_FormatBool F (a0.f1 == (1:Int))) fun y2 =>
            some (.go (y2,(5:Int),0))
          else
            bif (a0.f0 == (2:Int)) then
              some (.go ([],(1:Int),a0.f1))
            else
              bif (a0.f0 == (3:Int)) then
                some (.go (a0.f2,(2:Int),0))
              else
                bif (a0.f0 == (4:Int)) then
                  some (.go (a0.f2,(3:Int),0))
                else
                  bif (a0.f0 == (5:Int)) then
                    some (.go ([],(4:Int),a0.f1))
                  else
                    call (object_printer_nested F rec_object_printer_add a0 a1 c2 (IntKind.i64.wrap (c3+(1:Int)))) fun y3 =>
                    some (.esc (y3.1,y3.2.1,y3.2.2)))
        (fun e=>some e) fun (v1,v2,v3) =>
      chk (c2.length+([(S_Token.mk v2 v3 v1 0 0)]).length≤4294967296) <|
      call (token_Print F (S_Token.mk v2 v3 v1 0 0)) fun y4 =>
      some (y4.2,(c2++([(S_Token.mk v2 v3 v1 0 0)])),IntKind.i64.wrap (c3+(1:Int)))
def object_printer_add_fuel (F:Nat):Nat→S_Object→Int→(List S_Token)→Int→Option (Int×(List S_Token)×Int)
  | 0=>fun _ _ _ _=>none
  | n+1=>object_printer_add_body F (object_printer_add_fuel F n)
def object_printer_add (F:Nat) (a0:S_Object) (a1:Int) (c2:List S_Token) (c3:Int):Option (Int×(List S_Token)×Int):=object_printer_add_fuel F F a0 a1 c2 c3
def token_Join_L0 (F:Nat) (a0:List S_Token):Nat→(List UInt8)→Bool→Int→Option (Out ((List UInt8)) ((List UInt8)×Int))
  | 0,_,_,_=>none
  | n+1,v1,v2,v3 =>
    bif (decide (v3 < (a0.length:Int))) then
      chk (0≤v3∧v3 < a0.length) <|
      call (token_Print F (a0.getD v3.toNat (S_Token.mk 0 0 [] 0 0))) fun y1 =>
      bif (y1.2 != (0:Int)) then
        some (.esc ([],y1.2))
      else
        call (chk (((v2 == true) && true)=true→0≤(0:Int)∧(0:Int) < y1.1.length) <|
          call ((bif ((v2 == true) && true) then token_regular F ((y1.1.getD (0:Int).toNat 0).toNat:Int) else some false)) fun y2 =>
          bif (bif v2 then y2 else false) then
            call (strings_Builder_WriteByte F (32:Int) v1) fun y3 =>
            some y3.2
          else
            some v1)
          fun v4 =>
        call (strings_Builder_WriteString F y1.1 v4) fun y4 =>
        call (strings_Builder_Len F y4.2.2) fun y5 =>
        bif (decide (y5.1 > (8192:Int))) then
          some (.esc ([],(2:Int)))
        else
          chk (0≤(IntKind.i64.wrap ((y1.1.length:Int) - (1:Int)))∧(IntKind.i64.wrap ((y1.1.length:Int) - (1:Int))) < y1.1.length) <|
          call (token_regular F ((y1.1.getD (IntKind.i64.wrap ((y1.1.length:Int) - (1:Int))).toNat 0).toNat:Int)) fun y6 =>
          token_Join_L0 F a0 n y5.2 y6 (IntKind.i64.wrap (v3+(1:Int)))
    else
      some (.go v1)
/-- printworks/token.Join -/
def token_Join (F:Nat) (a0:List S_Token):Option ((List UInt8)×Int) :=
  callE (token_Join_L0 F a0 F [] false (0:Int))
    (fun e=>some e) fun v5 =>
  chk (v5.length≤9223372036854775807) <|
  some (v5,(0:Int))
/-- printworks/object.Print -/
def object_Print (F:Nat) (a0:S_Object):Option ((List UInt8)×Int) :=
  call (object_printer_add F a0 (1:Int) [] 0) fun y1 =>
  bif (y1.1 != (0:Int)) then
    some ([],y1.1)
  else
    call (token_Join F y1.2.1) fun y2 =>
    some (y2.1,y2.2)
/-- printworks/object.Parse -/
def object_Parse (F:Nat) (a0:List UInt8):Option (S_Object×Int×Int) :=
  call (object_parser_advance F a0 0 0 [] 0 0) fun y1 =>
  call (object_parser_object F (1:Int) y1.1 y1.2.1 y1.2.2.1 y1.2.2.2.1 y1.2.2.2.2.1 y1.2.2.2.2.2) fun y2 =>
  call (object_parser_advance F y2.2.1 y2.2.2.1 y2.2.2.2.1 y2.2.2.2.2.1 y2.2.2.2.2.2.1 y2.2.2.2.2.2.2) fun y3 =>
  call (bif (y3.2.1 != (0:Int)) then
      call (object_fail F y3.2.2.2.2.1 (5:Int)) fun y4 =>
      some ()
    else
      some ())
    fun _ =>
  call (call (object_Print F y2.1) fun y5 =>
    bif (y5.2 != (0:Int)) then
      call (object_fail F (0:Int) y5.2) fun y6 =>
      some ()
    else
      some ())
    fun _ =>
  some (y2.1,(0:Int),(0:Int))
/-- printworks/printworkslaw3.objectFact -/
def law3_objectFact (F:Nat)  : Option Bool :=
  call (object_Parse F ([60,60,47,66,32,50,32,47,65,32,91,116,114,117,101,93,62,62]:List UInt8)) fun y1 =>
  call (object_Print F y1.1) fun y2 =>
  lett ((bif (bif (y1.2.2 == (0:Int)) then (y1.2.1 == (0:Int)) else false) then (y2.2 == (0:Int)) else false)) fun z1 =>
  lett ((bif z1 then (y2.1 == ([60,60,47,65,91,116,114,117,101,93,47,66,32,50,62,62]:List UInt8)) else false)) fun z2 =>
  some z2
/-- printworks/object.Check -/
def object_Check (F:Nat) (a0:S_Object):Option Int :=
  call (object_Print F a0) fun y1 =>
  some y1.2
def object_Refs_c1_L0 (F:Nat) (a0:S_Object) (rec_object_Refs_c1:S_Object→(List Int)→Option ((List Int))):Nat→Int→(List Int)→Option ((List Int))
  | 0,_,_=>none
  | n+1,v1,v2 =>
    bif (decide (v1 < (a0.f4.length:Int))) then
      chk (0≤v1∧v1 < a0.f4.length) <|
      call (rec_object_Refs_c1 (a0.f4.getD v1.toNat (S_Object.mk 0 0 [] [] [])) v2) fun y1 =>
      object_Refs_c1_L0 F a0 rec_object_Refs_c1 n (IntKind.i64.wrap (v1+(1:Int))) y1
    else
      some v2
/-- printworks/object.Refs$1 -/
def object_Refs_c1_body (F:Nat) (rec_object_Refs_c1:S_Object→(List Int)→Option ((List Int))) (a0:S_Object) (c1:List Int):Option ((List Int)) :=
  call (bif (a0.f0 == (5:Int)) then
      chk (c1.length+([a0.f1]).length≤4294967296) <|
      some (c1++([a0.f1]))
    else
      some c1)
    fun v3 =>
  call (object_Refs_c1_L0 F a0 rec_object_Refs_c1 F (0:Int) v3)
    fun v4 =>
  some v4
def object_Refs_c1_fuel (F:Nat):Nat→S_Object→(List Int)→Option ((List Int))
  | 0=>fun _ _=>none
  | n+1=>object_Refs_c1_body F (object_Refs_c1_fuel F n)
def object_Refs_c1 (F:Nat) (a0:S_Object) (c1:List Int):Option ((List Int)):=object_Refs_c1_fuel F F a0 c1
/-- printworks/object.Refs -/
def object_Refs (F:Nat) (a0:S_Object):Option ((List Int)×Int) :=
  call (object_Check F a0) fun y1 =>
  bif (y1 != (0:Int)) then
    some ([],y1)
  else
    call (object_Refs_c1 F a0 []) fun y2 =>
    chk (y2.length≤4294967296) <|
    chk ((sortI y2).length≤4294967296) <|
    some ((Lib.compact (sortI y2)),(0:Int))
/-- printworks/printworksref3.digit -/
def ref3_digit (F:Nat) (a0:Int):Option Bool :=
  some (bif (decide (a0 ≥ (48:Int))) then (decide (a0≤(57:Int))) else false)
/-- printworks/printworksref3.letter -/
def ref3_letter (F:Nat) (a0:Int):Option Bool :=
  lett ((bif (bif (decide (a0 ≥ (65:Int))) then (decide (a0≤(90:Int))) else false) then true else (bif (decide (a0 ≥ (97:Int))) then (decide (a0≤(122:Int))) else false))) fun z1 =>
  some z1
def ref3_wordError_L0 (F:Nat) (a0:List UInt8):Nat→Int→Option (Out Unit Int)
  | 0,_=>none
  | n+1,v1 =>
    bif (decide (v1 < (a0.length:Int))) then
      chk (0≤v1∧v1 < a0.length) <|
      call (ref3_letter F ((a0.getD v1.toNat 0).toNat:Int)) fun y1 =>
      chk ((((!y1) == true) && true)=true→0≤v1∧v1 < a0.length) <|
      call ((bif (((!y1) == true) && true) then ref3_digit F ((a0.getD v1.toNat 0).toNat:Int) else some false)) fun y2 =>
      chk ((((bif (!y1) then (!y2) else false) == true) && true)=true→0≤v1∧v1 < a0.length) <|
      lett ((bif (bif (!y1) then (!y2) else false) then (((a0.getD v1.toNat 0).toNat:Int) != (42:Int)) else false)) fun z1 =>
      chk (((z1 == true) && true)=true→0≤v1∧v1 < a0.length) <|
      chk ((((bif z1 then (((a0.getD v1.toNat 0).toNat:Int) != (95:Int)) else false) == true) && true)=true→0≤v1∧v1 < a0.length) <|
      lett ((bif (bif z1 then (((a0.getD v1.toNat 0).toNat:Int) != (95:Int)) else false) then (((a0.getD v1.toNat 0).toNat:Int) != (46:Int)) else false)) fun z2 =>
      bif z2 then
        some (.esc (5:Int))
      else
        ref3_wordError_L0 F a0 n (IntKind.i64.wrap (v1+(1:Int)))
    else
      some (.go ())
/-- printworks/printworksref3.wordError -/
def ref3_wordError (F:Nat) (a0:List UInt8):Option Int :=
  callE (ref3_wordError_L0 F a0 F (0:Int))
    (fun e=>some e) fun _ =>
  bif (decide ((a0.length:Int) > (31:Int))) then
    some (2:Int)
  else
    some (0:Int)
def ref3_Decimal_L0 (F:Nat)  : Nat→Int→(List UInt8)→Option ((List UInt8))
  | 0,_,_=>none
  | n+1,v1,v2 =>
    bif (v1 != (0:Int)) then
      call (bif (decide ((v1.tmod (10:Int)) < (0:Int))) then
          some (IntKind.i64.wrap (0 - (v1.tmod (10:Int))))
        else
          some (v1.tmod (10:Int)))
        fun v3 =>
      chk (0≤(IntKind.u8.wrap (IntKind.i64.wrap ((48:Int)+v3)))∧(IntKind.u8.wrap (IntKind.i64.wrap ((48:Int)+v3))) < 256) <|
      chk (([(UInt8.ofNat (IntKind.u8.wrap (IntKind.i64.wrap ((48:Int)+v3))).toNat)]).length+v2.length≤9223372036854775807) <|
      ref3_Decimal_L0 F n (IntKind.i64.wrap (v1.tdiv (10:Int))) (([(UInt8.ofNat (IntKind.u8.wrap (IntKind.i64.wrap ((48:Int)+v3))).toNat)])++v2)
    else
      some v2
/-- printworks/printworksref3.Decimal -/
def ref3_Decimal (F:Nat) (a0:Int):Option ((List UInt8)) :=
  bif (a0 == (0:Int)) then
    some ([48]:List UInt8)
  else
    call (ref3_Decimal_L0 F F a0 [])
      fun v4 =>
    bif (decide (a0 < (0:Int))) then
      chk (([45]:List UInt8).length+v4.length≤9223372036854775807) <|
      some (([45]:List UInt8)++v4)
    else
      some v4
def ref3_Spelled_L0 (F:Nat) (a0:S_Token):Nat→Bool→Int→Option Bool
  | 0,_,_=>none
  | n+1,v1,v2 =>
    bif (decide (v2 < (a0.f2.length:Int))) then
      chk (((v1 == false) && true)=true→0≤v2∧v2 < a0.f2.length) <|
      ref3_Spelled_L0 F a0 n (bif v1 then true else (((a0.f2.getD v2.toNat 0).toNat:Int) == (0:Int))) (IntKind.i64.wrap (v2+(1:Int)))
    else
      some v1
def ref3_Spelled_L3 (F:Nat) (a0:S_Token):Nat→(List UInt8)→Int→Option ((List UInt8))
  | 0,_,_=>none
  | n+1,v3,v4 =>
    bif (decide (v4 < (a0.f2.length:Int))) then
      call (chk (0≤v4∧v4 < a0.f2.length) <|
        chk (0≤(IntKind.u8.wrap (((a0.f2.getD v4.toNat 0).toNat:Int).tdiv (16:Int)))∧(IntKind.u8.wrap (((a0.f2.getD v4.toNat 0).toNat:Int).tdiv (16:Int))) < ([48,49,50,51,52,53,54,55,56,57,97,98,99,100,101,102]:List UInt8).length) <|
        lett (((([48,49,50,51,52,53,54,55,56,57,97,98,99,100,101,102]:List UInt8).getD (IntKind.u8.wrap (((a0.f2.getD v4.toNat 0).toNat:Int).tdiv (16:Int))).toNat 0).toNat:Int)) fun z1 =>
        chk (0≤(((a0.f2.getD v4.toNat 0).toNat:Int).tmod (16:Int))∧(((a0.f2.getD v4.toNat 0).toNat:Int).tmod (16:Int)) < ([48,49,50,51,52,53,54,55,56,57,97,98,99,100,101,102]:List UInt8).length) <|
        lett (((([48,49,50,51,52,53,54,55,56,57,97,98,99,100,101,102]:List UInt8).getD (((a0.f2.getD v4.toNat 0).toNat:Int).tmod (16:Int)).toNat 0).toNat:Int)) fun z2 =>
        chk (0≤z1∧z1 < 256) <|
        chk (0≤z2∧z2 < 256) <|
        call ((bif (((a0.f0 == (2:Int)) == true) && true) then ref3_letter F ((a0.f2.getD v4.toNat 0).toNat:Int) else some false)) fun y1 =>
        call ((bif ((y1 == false) && (((a0.f0 == (2:Int)) == true) && true)) then ref3_digit F ((a0.f2.getD v4.toNat 0).toNat:Int) else some false)) fun y2 =>
        lett ((bif (bif y1 then true else y2) then true else (((a0.f2.getD v4.toNat 0).toNat:Int) == (95:Int)))) fun z3 =>
        lett ((bif (bif z3 then true else (((a0.f2.getD v4.toNat 0).toNat:Int) == (45:Int))) then true else (((a0.f2.getD v4.toNat 0).toNat:Int) == (46:Int)))) fun z4 =>
        bif (bif (a0.f0 == (2:Int)) then z4 else false) then
          chk (0≤((a0.f2.getD v4.toNat 0).toNat:Int)∧((a0.f2.getD v4.toNat 0).toNat:Int) < 256) <|
          chk (v3.length+([(UInt8.ofNat ((a0.f2.getD v4.toNat 0).toNat:Int).toNat)]).length≤4294967296) <|
          some (v3++([(UInt8.ofNat ((a0.f2.getD v4.toNat 0).toNat:Int).toNat)]))
        else
          bif (a0.f0 == (2:Int)) then
            chk (v3.length+([(UInt8.ofNat (35:Int).toNat)]).length≤4294967296) <|
            chk ((v3++([(UInt8.ofNat (35:Int).toNat)])).length+([(UInt8.ofNat z1.toNat),(UInt8.ofNat z2.toNat)]).length≤4294967296) <|
            lett (((v3++([(UInt8.ofNat (35:Int).toNat)]))++([(UInt8.ofNat z1.toNat),(UInt8.ofNat z2.toNat)]))) fun l1 =>
            some l1
          else
            bif (((a0.f2.getD v4.toNat 0).toNat:Int) == (10:Int)) then
              chk (v3.length+([(UInt8.ofNat (92:Int).toNat),(UInt8.ofNat (110:Int).toNat)]).length≤4294967296) <|
              some (v3++([(UInt8.ofNat (92:Int).toNat),(UInt8.ofNat (110:Int).toNat)]))
            else
              bif (((a0.f2.getD v4.toNat 0).toNat:Int) == (9:Int)) then
                chk (v3.length+([(UInt8.ofNat (92:Int).toNat),(UInt8.ofNat (116:Int).toNat)]).length≤4294967296) <|
                some (v3++([(UInt8.ofNat (92:Int).toNat),(UInt8.ofNat (116:Int).toNat)]))
              else
                lett ((bif (((a0.f2.getD v4.toNat 0).toNat:Int) == (40:Int)) then true else (((a0.f2.getD v4.toNat 0).toNat:Int) == (41:Int)))) fun z5 =>
                bif (bif z5 then true else (((a0.f2.getD v4.toNat 0).toNat:Int) == (92:Int))) then
                  chk (0≤((a0.f2.getD v4.toNat 0).toNat:Int)∧((a0.f2.getD v4.toNat 0).toNat:Int) < 256) <|
                  chk (v3.length+([(UInt8.ofNat (92:Int).toNat),(UInt8.ofNat ((a0.f2.getD v4.toNat 0).toNat:Int).toNat)]).length≤4294967296) <|
                  lett ((v3++([(UInt8.ofNat (92:Int).toNat),(UInt8.ofNat ((a0.f2.getD v4.toNat 0).toNat:Int).toNat)]))) fun l2 =>
                  some l2
                else
                  lett ((bif (decide (((a0.f2.getD v4.toNat 0).toNat:Int) < (32:Int))) then true else (decide (((a0.f2.getD v4.toNat 0).toNat:Int) ≥ (126:Int))))) fun z6 =>
                  bif z6 then
                    chk (v3.length+([(UInt8.ofNat (92:Int).toNat),(UInt8.ofNat (120:Int).toNat)]).length≤4294967296) <|
                    chk ((v3++([(UInt8.ofNat (92:Int).toNat),(UInt8.ofNat (120:Int).toNat)])).length+([(UInt8.ofNat z1.toNat),(UInt8.ofNat z2.toNat)]).length≤4294967296) <|
                    lett (((v3++([(UInt8.ofNat (92:Int).toNat),(UInt8.ofNat (120:Int).toNat)]))++([(UInt8.ofNat z1.toNat),(UInt8.ofNat z2.toNat)]))) fun l3 =>
                    some l3
                  else
                    chk (0≤((a0.f2.getD v4.toNat 0).toNat:Int)∧((a0.f2.getD v4.toNat 0).toNat:Int) < 256) <|
                    chk (v3.length+([(UInt8.ofNat ((a0.f2.getD v4.toNat 0).toNat:Int).toNat)]).length≤4294967296) <|
                    some (v3++([(UInt8.ofNat ((a0.f2.getD v4.toNat 0).toNat:Int).toNat)])))
        fun v5 =>
      ref3_Spelled_L3 F a0 n v5 (IntKind.i64.wrap (v4+(1:Int)))
    else
      some v3
/-- printworks/printworksref3.Spelled -/
def ref3_Spelled (F:Nat) (a0:S_Token):Option ((List UInt8)×Int) :=
  lett ((bif (bif (a0.f0 == (2:Int)) then true else (a0.f0 == (3:Int))) then true else (a0.f0 == (5:Int)))) fun z7 =>
  bif (bif (decide (a0.f0 < (1:Int))) then true else (decide (a0.f0 > (9:Int)))) then
    some ([],(14:Int))
  else
    lett ((bif (!(bif (a0.f0 == (1:Int)) then true else (a0.f0 == (4:Int)))) then (a0.f1 != (0:Int)) else false)) fun z8 =>
    bif (bif z8 then true else (bif (!z7) then (!(a0.f2 == [])) else false)) then
      some ([],(4:Int))
    else
      callE (bif (a0.f0 == (2:Int)) then
          call (ref3_Spelled_L0 F a0 F (a0.f2 == []) (0:Int))
            fun v6 =>
          bif v6 then
            some (.esc ([],(4:Int)))
          else
            some (.go ())
        else
          some (.go ()))
        (fun e=>some e) fun _ =>
      lett ((bif (a0.f0 == (1:Int)) then (bif (decide (a0.f1 > (2147483647:Int))) then true else (decide (a0.f1 < (-2147483647:Int)))) else false)) fun z9 =>
      lett ((bif (a0.f0 == (4:Int)) then (bif (decide (a0.f1 > (255:Int))) then true else (decide (a0.f1 < (1:Int)))) else false)) fun z10 =>
      bif (bif z9 then true else z10) then
        some ([],(3:Int))
      else
        lett ((bif (bif (a0.f0 == (2:Int)) then (decide ((a0.f2.length:Int) > (31:Int))) else false) then true else (bif (a0.f0 == (3:Int)) then (decide ((a0.f2.length:Int) > (1024:Int))) else false))) fun z11 =>
        bif z11 then
          some ([],(2:Int))
        else
          bif (a0.f0 == (5:Int)) then
            chk ((((a0.f2 == []) == false) && true)=true→0≤(0:Int)∧(0:Int) < a0.f2.length) <|
            call ((bif (((a0.f2 == []) == false) && true) then ref3_digit F ((a0.f2.getD (0:Int).toNat 0).toNat:Int) else some false)) fun y3 =>
            call ((bif (((bif (a0.f2 == []) then true else y3) == false) && true) then ref3_wordError F a0.f2 else some 0)) fun y4 =>
            bif (bif (bif (a0.f2 == []) then true else y3) then true else (y4 == (5:Int))) then
              some ([],(4:Int))
            else
              call (ref3_wordError F a0.f2) fun y5 =>
              bif (y5 != (0:Int)) then
                some ([],y5)
              else
                some (a0.f2,(0:Int))
          else
            bif (a0.f0 == (1:Int)) then
              call (ref3_Decimal F a0.f1) fun y6 =>
              some (y6,(0:Int))
            else
              bif (a0.f0 == (4:Int)) then
                call (ref3_Decimal F a0.f1) fun y7 =>
                chk (([64]:List UInt8).length+y7.length≤9223372036854775807) <|
                some ((([64]:List UInt8)++y7),(0:Int))
              else
                bif (a0.f0 == (6:Int)) then
                  some (([91]:List UInt8),(0:Int))
                else
                  bif (a0.f0 == (7:Int)) then
                    some (([93]:List UInt8),(0:Int))
                  else
                    bif (a0.f0 == (8:Int)) then
                      some (([60,60]:List UInt8),(0:Int))
                    else
                      bif (a0.f0 == (9:Int)) then
                        some (([62,62]:List UInt8),(0:Int))
                      else
                        call (ref3_Spelled_L3 F a0 F [] (0:Int))
                          fun v7 =>
                        bif (a0.f0 == (2:Int)) then
                          chk (([47]:List UInt8).length+v7.length≤9223372036854775807) <|
                          some ((([47]:List UInt8)++v7),(0:Int))
                        else
                          chk (([40]:List UInt8).length+v7.length≤9223372036854775807) <|
                          chk ((([40]:List UInt8)++v7).length+([41]:List UInt8).length≤9223372036854775807) <|
                          some (((([40]:List UInt8)++v7)++([41]:List UInt8)),(0:Int))
def ref3_partError_L1 (F:Nat) (a0:S_Object):Nat→Int→Option (Out Unit Int)
  | 0,_=>none
  | n+1,v1 =>
    bif (decide (v1 < (a0.f3.length:Int))) then
      chk (0≤v1∧v1 < a0.f3.length) <|
      call (ref3_Spelled F (S_Token.mk (2:Int) 0 (a0.f3.getD v1.toNat []) 0 0)) fun y1 =>
      bif (y1.2 != (0:Int)) then
        some (.esc y1.2)
      else
        chk ((((decide (v1 > (0:Int))) == true) && true)=true→0≤(IntKind.i64.wrap (v1 - (1:Int)))∧(IntKind.i64.wrap (v1 - (1:Int))) < a0.f3.length) <|
        lett ((Op.bytesLess (a0.f3.getD v1.toNat []) (a0.f3.getD (IntKind.i64.wrap (v1 - (1:Int))).toNat []) || (a0.f3.getD v1.toNat []) == (a0.f3.getD (IntKind.i64.wrap (v1 - (1:Int))).toNat []))) fun z1 =>
        bif (bif (decide (v1 > (0:Int))) then z1 else false) then
          some (.esc (4:Int))
        else
          ref3_partError_L1 F a0 n (IntKind.i64.wrap (v1+(1:Int)))
    else
      some (.go ())
/-- printworks/printworksref3.partError -/
def ref3_partError (F:Nat) (a0:S_Object) (a1:Int):Option Int :=
  bif (bif (decide (a0.f0 < (0:Int))) then true else (decide (a0.f0 > (7:Int)))) then
    some (14:Int)
  else
    bif (decide (a1 > (12:Int))) then
      some (15:Int)
    else
      lett ((bif (bif (a0.f1 != (0:Int)) then (a0.f0 != (1:Int)) else false) then (a0.f0 != (2:Int)) else false)) fun z2 =>
      bif (bif z2 then (a0.f0 != (5:Int)) else false) then
        some (4:Int)
      else
        lett ((bif (bif (!(a0.f2 == [])) then (a0.f0 != (3:Int)) else false) then (a0.f0 != (4:Int)) else false)) fun z3 =>
        bif z3 then
          some (4:Int)
        else
          lett ((bif (bif (decide ((a0.f4.length:Int) > (0:Int))) then (a0.f0 != (6:Int)) else false) then (a0.f0 != (7:Int)) else false)) fun z4 =>
          bif z4 then
            some (4:Int)
          else
            lett ((bif (bif (a0.f0 == (7:Int)) then ((a0.f3.length:Int) != (a0.f4.length:Int)) else false) then true else (bif (a0.f0 != (7:Int)) then (decide ((a0.f3.length:Int) > (0:Int))) else false))) fun z5 =>
            bif z5 then
              some (4:Int)
            else
              lett ((bif (a0.f0 == (1:Int)) then (bif (decide (a0.f1 < (0:Int))) then true else (decide (a0.f1 > (1:Int)))) else false)) fun z6 =>
              bif z6 then
                some (3:Int)
              else
                bif (decide ((a0.f4.length:Int) > (256:Int))) then
                  some (2:Int)
                else
                  callE (ref3_partError_L1 F a0 F (0:Int))
                    (fun e=>some e) fun _ =>
                  some (0:Int)
def ref3_tokensOf_L0 (F:Nat) (a1:S_Object) (a2:Int) (rec_ref3_tokensOf:(List S_Token)→S_Object→Int→Int→Option ((List S_Token)×Int×Int)):Nat→(List S_Token)→Int→Int→Option (Out ((List S_Token)×Int) ((List S_Token)×Int×Int))
  | 0,_,_,_=>none
  | n+1,v1,v2,v3 =>
    bif (decide (v2 < (a1.f4.length:Int))) then
      chk (0≤v2∧v2 < a1.f4.length) <|
      call (bif (a1.f0 == (7:Int)) then
          chk (0≤v2∧v2 < a1.f3.length) <|
          chk (v1.length+([(S_Token.mk (2:Int) 0 (a1.f3.getD v2.toNat []) 0 0)]).length≤4294967296) <|
          some (v1++([(S_Token.mk (2:Int) 0 (a1.f3.getD v2.toNat []) 0 0)]))
        else
          some v1)
        fun v4 =>
      call (rec_ref3_tokensOf v4 (a1.f4.getD v2.toNat (S_Object.mk 0 0 [] [] [])) (IntKind.i64.wrap (a2+(1:Int))) v3) fun y1 =>
      bif (y1.2.1 != (0:Int)) then
        some (.esc ([],y1.2.1,y1.2.2))
      else
        ref3_tokensOf_L0 F a1 a2 rec_ref3_tokensOf n y1.1 (IntKind.i64.wrap (v2+(1:Int))) y1.2.2
    else
      some (.go (v1,v3))
/-- printworks/printworksref3.tokensOf -/
def ref3_tokensOf_body (F:Nat) (rec_ref3_tokensOf:(List S_Token)→S_Object→Int→Int→Option ((List S_Token)×Int×Int)) (a0:List S_Token) (a1:S_Object) (a2:Int) (c3:Int):Option ((List S_Token)×Int×Int) :=
  bif (decide ((IntKind.i64.wrap (c3+(1:Int))) > (4096:Int))) then
    some ([],(2:Int),IntKind.i64.wrap (c3+(1:Int)))
  else
    call (ref3_partError F a1 a2) fun y2 =>
    bif (y2 != (0:Int)) then
      some ([],y2,IntKind.i64.wrap (c3+(1:Int)))
    else
      chk (0≤a1.f0∧a1.f0 < ([(5:Int),(5:Int),(1:Int),(2:Int),(3:Int),(4:Int),(6:Int),(8:Int)]).length) <|
      lett ((([(5:Int),(5:Int),(1:Int),(2:Int),(3:Int),(4:Int),(6:Int),(8:Int)]).getD a1.f0.toNat 0)) fun z1 =>
      call (bif (a1.f0 == (0:Int)) then
          some ([110,117,108,108]:List UInt8)
        else
          some a1.f2)
        fun v5 =>
      call (bif (a1.f0 == (1:Int)) then
          chk (0≤a1.f1∧a1.f1 < ([([102,97,108,115,101]:List UInt8),([116,114,117,101]:List UInt8)]).length) <|
          lett ((([([102,97,108,115,101]:List UInt8),([116,114,117,101]:List UInt8)]).getD a1.f1.toNat [])) fun z2 =>
          some ((0:Int),z2)
        else
          some (a1.f1,v5))
        fun (v6,v7) =>
      call (ref3_Spelled F (S_Token.mk z1 v6 v7 0 0)) fun y3 =>
      bif (y3.2 != (0:Int)) then
        some ([],y3.2,IntKind.i64.wrap (c3+(1:Int)))
      else
        chk (a0.length+([(S_Token.mk z1 v6 v7 0 0)]).length≤4294967296) <|
        bif (decide (a1.f0 < (6:Int))) then
          some ((a0++([(S_Token.mk z1 v6 v7 0 0)])),(0:Int),IntKind.i64.wrap (c3+(1:Int)))
        else
          callE (ref3_tokensOf_L0 F a1 a2 rec_ref3_tokensOf F (a0++([(S_Token.mk z1 v6 v7 0 0)])) (0:Int) (IntKind.i64.wrap (c3+(1:Int))))
            (fun e=>some e) fun (v8,v9) =>
          chk (v8.length+([(S_Token.mk (IntKind.i64.wrap (z1+(1:Int))) 0 [] 0 0)]).length≤4294967296) <|
          some ((v8++([(S_Token.mk (IntKind.i64.wrap (z1+(1:Int))) 0 [] 0 0)])),(0:Int),v9)
def ref3_tokensOf_fuel (F:Nat):Nat→(List S_Token)→S_Object→Int→Int→Option ((List S_Token)×Int×Int)
  | 0=>fun _ _ _ _=>none
  | n+1=>ref3_tokensOf_body F (ref3_tokensOf_fuel F n)
def ref3_tokensOf (F:Nat) (a0:List S_Token) (a1:S_Object) (a2:Int) (c3:Int):Option ((List S_Token)×Int×Int):=ref3_tokensOf_fuel F F a0 a1 a2 c3
def ref3_Shown_L0 (F:Nat) (y1:(List S_Token)×Int×Int):Nat→(List UInt8)→Int→Option (Out ((List UInt8)) ((List UInt8)×Int))
  | 0,_,_=>none
  | n+1,v1,v2 =>
    bif (decide (v2 < (y1.1.length:Int))) then
      chk (0≤v2∧v2 < y1.1.length) <|
      call (ref3_Spelled F (y1.1.getD v2.toNat (S_Token.mk 0 0 [] 0 0))) fun y2 =>
      call (lett ((bif (((y1.1.getD v2.toNat (S_Token.mk 0 0 [] 0 0)).f0) == (1:Int)) then true else (((y1.1.getD v2.toNat (S_Token.mk 0 0 [] 0 0)).f0) == (5:Int)))) fun z1 =>
        chk ((((bif (decide (v2 > (0:Int))) then z1 else false) == true) && true)=true→0≤(IntKind.i64.wrap (v2 - (1:Int)))∧(IntKind.i64.wrap (v2 - (1:Int))) < y1.1.length) <|
        lett ((bif (bif (decide (v2 > (0:Int))) then z1 else false) then (((y1.1.getD (IntKind.i64.wrap (v2 - (1:Int))).toNat (S_Token.mk 0 0 [] 0 0)).f0) != (3:Int)) else false)) fun z2 =>
        chk (((z2 == true) && true)=true→0≤(IntKind.i64.wrap (v2 - (1:Int)))∧(IntKind.i64.wrap (v2 - (1:Int))) < y1.1.length) <|
        lett ((decide (((y1.1.getD (IntKind.i64.wrap (v2 - (1:Int))).toNat (S_Token.mk 0 0 [] 0 0)).f0) < (6:Int)))) fun z3 =>
        bif (bif z2 then z3 else false) then
          chk (v1.length+([(UInt8.ofNat (32:Int).toNat)]).length≤4294967296) <|
          some (v1++([(UInt8.ofNat (32:Int).toNat)]))
        else
          some v1)
        fun v3 =>
      chk (v3.length+y2.1.length≤4294967296) <|
      bif (decide (((v3++y2.1).length:Int) > (8192:Int))) then
        some (.esc ([],(2:Int)))
      else
        ref3_Shown_L0 F y1 n (v3++y2.1) (IntKind.i64.wrap (v2+(1:Int)))
    else
      some (.go v1)
/-- printworks/printworksref3.Shown -/
def ref3_Shown (F:Nat) (a0:S_Object):Option ((List UInt8)×Int) :=
  call (ref3_tokensOf F [] a0 (1:Int) (0:Int)) fun y1 =>
  bif (y1.2.1 != (0:Int)) then
    some ([],y1.2.1)
  else
    callE (ref3_Shown_L0 F y1 F [] (0:Int))
      (fun e=>some e) fun v4 =>
    some (v4,(0:Int))
def ref3_Numbers_L0 (F:Nat) (a0:S_Object) (rec_ref3_Numbers:S_Object→(List Bool)→Option ((List Bool))):Nat→Int→(List Bool)→Option ((List Bool))
  | 0,_,_=>none
  | n+1,v1,v2 =>
    bif (decide (v1 < (a0.f4.length:Int))) then
      chk (0≤v1∧v1 < a0.f4.length) <|
      call (rec_ref3_Numbers (a0.f4.getD v1.toNat (S_Object.mk 0 0 [] [] [])) v2) fun y1 =>
      ref3_Numbers_L0 F a0 rec_ref3_Numbers n (IntKind.i64.wrap (v1+(1:Int))) y1
    else
      some v2
/-- printworks/printworksref3.Numbers -/
def ref3_Numbers_body (F:Nat) (rec_ref3_Numbers:S_Object→(List Bool)→Option ((List Bool))) (a0:S_Object) (c1:List Bool):Option ((List Bool)) :=
  call (lett ((bif (bif (a0.f0 == (5:Int)) then (decide (a0.f1 > (0:Int))) else false) then (decide (a0.f1 < (256:Int))) else false)) fun z1 =>
    bif z1 then
      chk ((0≤a0.f1∧a0.f1 < 256)∧a0.f1 < c1.length) <|
      some (c1.set a0.f1.toNat true)
    else
      some c1)
    fun v3 =>
  call (ref3_Numbers_L0 F a0 rec_ref3_Numbers F (0:Int) v3)
    fun v4 =>
  some v4
def ref3_Numbers_fuel (F:Nat):Nat→S_Object→(List Bool)→Option ((List Bool))
  | 0=>fun _ _=>none
  | n+1=>ref3_Numbers_body F (ref3_Numbers_fuel F n)
def ref3_Numbers (F:Nat) (a0:S_Object) (c1:List Bool):Option ((List Bool)):=ref3_Numbers_fuel F F a0 c1
def slices_Equal_int_L0 (F:Nat) (a0:List Int) (a1:List Int):Nat→Int→Option (Out Unit Bool)
  | 0,_=>none
  | n+1,v1 =>
    bif (decide (v1 < (a0.length:Int))) then
      chk (0≤v1∧v1 < a0.length) <|
      chk (0≤v1∧v1 < a1.length) <|
      bif ((a0.getD v1.toNat 0) != (a1.getD v1.toNat 0)) then
        some (.esc false)
      else
        slices_Equal_int_L0 F a0 a1 n (IntKind.i64.wrap (v1+(1:Int)))
    else
      some (.go ())
/-- slices.Equal[[]int,int] -/
def slices_Equal_int (F:Nat) (a0:List Int) (a1:List Int):Option Bool :=
  bif ((a0.length:Int) != (a1.length:Int)) then
    some false
  else
    callE (slices_Equal_int_L0 F a0 a1 F (0:Int))
      (fun e=>some e) fun _ =>
    some true
def law3_ObjectRefsMatchReference_L0 (F:Nat) (y1:(List Bool)):Nat→(List Int)→Int→Option ((List Int))
  | 0,_,_=>none
  | n+1,v1,v2 =>
    bif (decide (v2 < (256:Int))) then
      call (chk ((0≤v2∧v2 < 256)∧y1.length=256) <|
        bif (y1.getD v2.toNat false) then
          chk (v1.length+([v2]).length≤4294967296) <|
          some (v1++([v2]))
        else
          some v1)
        fun v3 =>
      law3_ObjectRefsMatchReference_L0 F y1 n v3 (IntKind.i64.wrap (v2+(1:Int)))
    else
      some v1
/-- printworks/printworkslaw3.ObjectRefsMatchReference -/
def law3_ObjectRefsMatchReference (F:Nat) (a0:S_Object):Option Bool :=
  call (law3_objectFact F) fun y2 =>
  bif (!y2) then
    some false
  else
    call (object_Refs F a0) fun y3 =>
    call (ref3_Shown F a0) fun y4 =>
    bif (y4.2 != (0:Int)) then
      some (bif (y3.2 == y4.2) then ((y3.1.length:Int) == (0:Int)) else false)
    else
      call (ref3_Numbers F a0 (List.replicate 256 false)) fun y1 =>
      chk (y1.length=256) <|
      call (law3_ObjectRefsMatchReference_L0 F y1 F [] (0:Int))
        fun v4 =>
      call ((bif (((y3.2 == (0:Int)) == true) && true) then slices_Equal_int F y3.1 v4 else some false)) fun y5 =>
      some (bif (y3.2 == (0:Int)) then y5 else false)
end Go.Vm.ObjG
