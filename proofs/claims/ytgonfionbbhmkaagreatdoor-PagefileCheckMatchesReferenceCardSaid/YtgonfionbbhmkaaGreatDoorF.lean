/-
  Texts.
-/
import Derived.Test.YtgonfionbbhmkaaGreatDoorVmC
import Derived.Test.YtgonfionbbhmkaaGreatDoorVmD
import Derived.Lib.ItoaNum
import Derived.Lib.SlTrimSet
import Derived.Lib.AtoiAll
import Derived.Lib.Bytealg
import Derived.Lib.Repeat
import Derived.Shelf.GgClosure.StringsIndexFunc
namespace Go.Vm.PgfG
structure aC where
 f0:Int
 f1:Int
 f2:List UInt8
 f3:List (List UInt8)
 f4:List aC
mutual
def bD:aC→List Dat
 | ⟨x0,x1,x2,x3,x4⟩=>(cI .i64) x0++(cI .i64) x1++cS x2++(cL 1 cS) x3++[Dat.sl 5 (aJ7 x4)]
def aJ7:List aC→List (List Dat)
 | []=>[]
 | x :: l=>bD x :: aJ7 l
end
theorem aH9:∀ l,aJ7 l=l.map bD
 | []=>rfl
 | x :: l=>congrArg (bD x :: ·) (aH9 l)
def aZ (x:aC):List Dat:=(cI .i64) x.f0++(cI .i64) x.f1++cS x.f2++(cL 1 cS) x.f3++(cL 5 bD) x.f4
theorem eY:∀ x,bD x=aZ x
 | ⟨x0,x1,x2,x3,x4⟩=>by simp only [bD,aZ,aH9,cL]
structure aJ where
 f0:Int
 f1:aC
 f2:List UInt8
def aF (x:aJ):List Dat:=(cI .i64) x.f0++aZ x.f1++cS x.f2
structure bC where
 f0:Int
 f1:List aJ
def bP (x:bC):List Dat:=(cI .i64) x.f0++(cL 7 aF) x.f1
structure aM where
 f0:Int
 f1:Int
 f2:List UInt8
 f3:Int
 f4:Int
deriving DecidableEq
def bH (x:aM):List Dat:=(cI .i64) x.f0++(cI .i64) x.f1++cS x.f2++(cI .i64) x.f3++(cI .i64) x.f4
structure aT where
 f0:Int
 f1:Int
deriving DecidableEq
def bK (x:aT):List Dat:=(cI .i64) x.f0++(cI .i64) x.f1
structure dA where
 f0:Int
 f1:Int
deriving DecidableEq
def eB (x:dA):List Dat:=(cI .i64) x.f0++(cI .i64) x.f1
structure dG where
deriving DecidableEq
def mC (x:dG):List Dat:=[]
structure jI where
 f0:Int
deriving DecidableEq
def aF0 (x:jI):List Dat:=(cI .i64) x.f0
inductive fA where
 | nil
 | k_runs (x:dG)
 | k_rows (x:jI)
 | k_copies (x:dG)
 | k_text (x:dG)
deriving DecidableEq
def lZ:fA→Value
 | .nil=>.nilIface
 | .k_runs x=>.iface 193 (.agg ⟨[]⟩)
 | .k_rows x=>.iface 195 (.agg ⟨[.int .i64 x.f0]⟩)
 | .k_copies x=>.iface 196 (.agg ⟨[]⟩)
 | .k_text x=>.iface 197 (.agg ⟨[]⟩)
def aQ:List Int:=[0,498536548,997073096,651767980,1994146192,1802195444,1303535960,1342533948,3988292384,4027552580,3604390888,3412177804,2607071920,2262029012,2685067896,3183342108]
def aA:List Int:=[1,10,100,1000,10000,100000,1000000,10000000,100000000,1000000000,10000000000,100000000000,1000000000000,10000000000000,100000000000000,1000000000000000,10000000000000000,100000000000000000,1000000000000000000,10000000000000000000]
/-- what strconv.Atoi returns of a number. -/
def bG8 (l:List UInt8):Option Int :=
 match Lib.atoiAll l with
 | .ok v=>some v
 | _=>none
/-- strings.ContainsFunc,of a predicate that answers at every rune. -/
def xZ (q:Int→Option Bool) (l:List UInt8):Option Bool :=
 if ∀ x:Nat,x≤1114111→(q x).isSome=true then some (decide (0≤Lib.idxFunc (fun x=>(q x).getD false) true ⟨l.toArray⟩)) else none
theorem bI0 {q:Int→Option Bool} {l:List UInt8} {r:Bool} (h:xZ q l=some r):(∀ x:Nat,x≤1114111→(q x).isSome=true)∧r=decide (0≤Lib.idxFunc (fun x=>(q x).getD false) true ⟨l.toArray⟩):=by
 unfold xZ at h
 split at h
 ·rename_i h1; cases h; exact ⟨h1,rfl⟩
 ·cases h
/-- The same,of a predicate of which it is plain that it answers. -/
def aQ7 (q:Int→Option Bool) (l:List UInt8):Option Bool:=some (decide (0≤Lib.idxFunc (fun x=>(q x).getD false) true ⟨l.toArray⟩))
theorem aO1 {q:Int→Option Bool} {l:List UInt8} {r:Bool} (ht:∀ x:Nat,x≤1114111→(q x).isSome=true) (h:aQ7 q l=some r):xZ q l=some r:=by
 unfold xZ
 rw [if_pos ht]
 exact h
/-- slices.Clone[[]printworks/api.PageDoc,printworks/api.PageDoc] -/
def lM (F:Nat) (a0:List bC):Option ((List bC)) :=
 chk (([]:List bC).length+a0.length≤4294967296) <|
 some (([]:List bC)++a0)
/-- printworks/token.letter -/
def qW (F:Nat) (a0:Int):Option Bool :=
 dE ((bif (bif (decide ((97:Int)≤a0)) then (decide (a0≤(122:Int))) else false) then true else (bif (decide ((65:Int)≤a0)) then (decide (a0≤(90:Int))) else false))) fun z1 =>
 some z1
/-- printworks/token.digit -/
def mG (F:Nat) (a0:Int):Option Bool :=
 some (bif (decide ((48:Int)≤a0)) then (decide (a0≤(57:Int))) else false)
/-- printworks/token.limited -/
def lS (F:Nat) (a0:List UInt8) (a1:Int):Option ((List UInt8)×Int) :=
 bif (decide ((a0.length:Int) > a1)) then
  some ([],(2:Int))
 else
  some (a0,(0:Int))
def jK (F:Nat) (a0:List UInt8):Nat→Int→Option (Out Unit ((List UInt8)×Int))
 | 0,_=>none
 | n+1,v1 =>
  bif (decide (v1 < (a0.length:Int))) then
   chk (0≤v1∧v1 < a0.length) <|
   call (qW F ((a0.getD v1.toNat 0).toNat:Int)) fun y1 =>
   call ((bif (((v1 == (0:Int)) == false) && (((!y1) == true) && true)) then mG F ((a0.getD v1.toNat 0).toNat:Int) else some false)) fun y2 =>
   dE ((bif (bif (!y1) then (bif (v1 == (0:Int)) then true else (!y2)) else false) then (((a0.getD v1.toNat 0).toNat:Int) != (42:Int)) else false)) fun z1 =>
   dE ((bif (bif z1 then (((a0.getD v1.toNat 0).toNat:Int) != (95:Int)) else false) then (((a0.getD v1.toNat 0).toNat:Int) != (46:Int)) else false)) fun z2 =>
   bif z2 then
    some (.esc ([],(5:Int)))
   else
    jK F a0 n (IntKind.i64.wrap (v1+(1:Int)))
  else
   some (.go ())
/-- printworks/token.word -/
def sB (F:Nat) (a0:List UInt8):Option ((List UInt8)×Int) :=
 dO (jK F a0 F (0:Int))
  (fun e=>some e) fun _ =>
 bif (a0 == []) then
  some ([],(5:Int))
 else
  call (lS F a0 (31:Int)) fun y3 =>
  some (y3.1,y3.2)
/-- printworks/token.bad -/
def qK (F:Nat) (a0:Int):Option Int :=
 bif (a0 == (5:Int)) then
  some (4:Int)
 else
  some a0
/-- printworks/token.check -/
def bW (F:Nat) (a0:aM):Option Int :=
 dE ((bif (bif (a0.f0 == (2:Int)) then true else (a0.f0 == (3:Int))) then true else (a0.f0 == (5:Int)))) fun z1 =>
 dO (bif (bif (decide (a0.f0 < (1:Int))) then true else (decide (a0.f0 > (9:Int)))) then
   some (.esc (14:Int))
  else
   call (dE ((bif (a0.f1 != (0:Int)) then (!(bif (a0.f0 == (1:Int)) then true else (a0.f0 == (4:Int)))) else false)) fun z2 =>
    bif z2 then
     some z2
    else
     some (bif (!(a0.f2 == [])) then (!z1) else false))
    fun v1 =>
   bif v1 then
    some (.esc (4:Int))
   else
    dE ((bif (a0.f2 == []) then true else (decide ((Lib.indexByte a0.f2 (0:Int).toNat.toUInt8) ≥ (0:Int))))) fun z3 =>
    bif (bif (a0.f0 == (2:Int)) then z3 else false) then
     some (.esc (4:Int))
    else
     dE ((bif (a0.f0 == (1:Int)) then (bif (decide (a0.f1 < (-2147483647:Int))) then true else (decide (a0.f1 > (2147483647:Int)))) else false)) fun z4 =>
     bif z4 then
      some (.esc (3:Int))
     else
      dE ((bif (a0.f0 == (4:Int)) then (bif (decide (a0.f1 < (1:Int))) then true else (decide (a0.f1 > (255:Int)))) else false)) fun z5 =>
      bif z5 then
       some (.esc (3:Int))
      else
       call (bif (bif (a0.f0 == (2:Int)) then (decide ((a0.f2.length:Int) > (31:Int))) else false) then
         some (bif (a0.f0 == (2:Int)) then (decide ((a0.f2.length:Int) > (31:Int))) else false)
        else
         some (bif (decide ((a0.f2.length:Int) > (1024:Int))) then (a0.f0 == (3:Int)) else false))
        fun v2 =>
       bif v2 then
        some (.esc (2:Int))
       else
        bif (a0.f0 == (5:Int)) then
         call (sB F a0.f2) fun y1 =>
         bif (y1.2 != (0:Int)) then
          call (qK F y1.2) fun y2 =>
          some (.esc y2)
         else
          some (.go ())
        else
         some (.go ()))
  (fun e=>some e) fun _ =>
 some (0:Int)
/-- (*strings.Builder).WriteByte -/
def aY (F:Nat) (a0:Int) (c1:List UInt8):Option (Unit×(List UInt8)) :=
 chk (0≤a0∧a0 < 256) <|
 chk (c1.length+([(UInt8.ofNat a0.toNat)]).length≤4294967296) <|
 some ((),(c1++([(UInt8.ofNat a0.toNat)])))
def eX (F:Nat) (a0:List UInt8):Nat→(List UInt8)→Int→Option ((List UInt8))
 | 0,_,_=>none
 | n+1,v1,v2 =>
  bif (decide (v2 < (a0.length:Int))) then
   call (chk (0≤v2∧v2 < a0.length) <|
    call (qW F ((a0.getD v2.toNat 0).toNat:Int)) fun y1 =>
    call ((bif ((y1 == false) && true) then mG F ((a0.getD v2.toNat 0).toNat:Int) else some false)) fun y2 =>
    dE ((bif (bif y1 then true else y2) then true else (((a0.getD v2.toNat 0).toNat:Int) == (95:Int)))) fun z1 =>
    dE ((bif (bif z1 then true else (((a0.getD v2.toNat 0).toNat:Int) == (45:Int))) then true else (((a0.getD v2.toNat 0).toNat:Int) == (46:Int)))) fun z2 =>
    bif z2 then
     call (aY F ((a0.getD v2.toNat 0).toNat:Int) v1) fun y3 =>
     some y3.2
    else
     call (aY F (35:Int) v1) fun y4 =>
     chk (0≤(((a0.getD v2.toNat 0).toNat:Int).fdiv (2 ^ (min (4:Int).toNat IntKind.u8.bits)))∧(((a0.getD v2.toNat 0).toNat:Int).fdiv (2 ^ (min (4:Int).toNat IntKind.u8.bits))) < ([48,49,50,51,52,53,54,55,56,57,97,98,99,100,101,102]:List UInt8).length) <|
     dE (((([48,49,50,51,52,53,54,55,56,57,97,98,99,100,101,102]:List UInt8).getD (((a0.getD v2.toNat 0).toNat:Int).fdiv (2 ^ (min (4:Int).toNat IntKind.u8.bits))).toNat 0).toNat:Int)) fun z3 =>
     call (aY F z3 y4.2) fun y5 =>
     dE (IntKind.u8.wrap ((BitVec.ofInt IntKind.u8.bits ((a0.getD v2.toNat 0).toNat:Int) &&& BitVec.ofInt IntKind.u8.bits (15:Int)).toNat:Int)) fun z4 =>
     chk (0≤z4∧z4 < ([48,49,50,51,52,53,54,55,56,57,97,98,99,100,101,102]:List UInt8).length) <|
     dE (((([48,49,50,51,52,53,54,55,56,57,97,98,99,100,101,102]:List UInt8).getD z4.toNat 0).toNat:Int)) fun z5 =>
     call (aY F z5 y5.2) fun y6 =>
     some y6.2)
    fun v3 =>
   eX F a0 n v3 (IntKind.i64.wrap (v2+(1:Int)))
  else
   some v1
/-- printworks/token.printedName -/
def mZ (F:Nat) (a0:List UInt8):Option ((List UInt8)) :=
 call (eX F a0 F [] (0:Int))
  fun v4 =>
 chk (v4.length≤9223372036854775807) <|
 some v4
/-- (*strings.Builder).WriteString -/
def bS (F:Nat) (a0:List UInt8) (c1:List UInt8):Option (Int×Unit×(List UInt8)) :=
 chk (c1.length+a0.length≤4294967296) <|
 some ((a0.length:Int),(),(c1++a0))
def eV (F:Nat) (a0:List UInt8):Nat→(List UInt8)→Int→Option ((List UInt8))
 | 0,_,_=>none
 | n+1,v1,v2 =>
  bif (decide (v2 < (a0.length:Int))) then
   call (chk (0≤v2∧v2 < a0.length) <|
    bif (((a0.getD v2.toNat 0).toNat:Int) == (10:Int)) then
     call (bS F ([92,110]:List UInt8) v1) fun y1 =>
     some y1.2.2
    else
     bif (((a0.getD v2.toNat 0).toNat:Int) == (9:Int)) then
      call (bS F ([92,116]:List UInt8) v1) fun y2 =>
      some y2.2.2
     else
      dE ((bif (((a0.getD v2.toNat 0).toNat:Int) == (40:Int)) then true else (((a0.getD v2.toNat 0).toNat:Int) == (41:Int)))) fun z1 =>
      bif (bif z1 then true else (((a0.getD v2.toNat 0).toNat:Int) == (92:Int))) then
       call (aY F (92:Int) v1) fun y3 =>
       call (aY F ((a0.getD v2.toNat 0).toNat:Int) y3.2) fun y4 =>
       some y4.2
      else
       dE ((bif (decide (((a0.getD v2.toNat 0).toNat:Int) < (32:Int))) then true else (decide (((a0.getD v2.toNat 0).toNat:Int) > (125:Int))))) fun z2 =>
       bif z2 then
        call (bS F ([92,120]:List UInt8) v1) fun y5 =>
        chk (0≤(((a0.getD v2.toNat 0).toNat:Int).fdiv (2 ^ (min (4:Int).toNat IntKind.u8.bits)))∧(((a0.getD v2.toNat 0).toNat:Int).fdiv (2 ^ (min (4:Int).toNat IntKind.u8.bits))) < ([48,49,50,51,52,53,54,55,56,57,97,98,99,100,101,102]:List UInt8).length) <|
        dE (((([48,49,50,51,52,53,54,55,56,57,97,98,99,100,101,102]:List UInt8).getD (((a0.getD v2.toNat 0).toNat:Int).fdiv (2 ^ (min (4:Int).toNat IntKind.u8.bits))).toNat 0).toNat:Int)) fun z3 =>
        call (aY F z3 y5.2.2) fun y6 =>
        dE (IntKind.u8.wrap ((BitVec.ofInt IntKind.u8.bits ((a0.getD v2.toNat 0).toNat:Int) &&& BitVec.ofInt IntKind.u8.bits (15:Int)).toNat:Int)) fun z4 =>
        chk (0≤z4∧z4 < ([48,49,50,51,52,53,54,55,56,57,97,98,99,100,101,102]:List UInt8).length) <|
        dE (((([48,49,50,51,52,53,54,55,56,57,97,98,99,100,101,102]:List UInt8).getD z4.toNat 0).toNat:Int)) fun z5 =>
        call (aY F z5 y6.2) fun y7 =>
        some y7.2
       else
        call (aY F ((a0.getD v2.toNat 0).toNat:Int) v1) fun y8 =>
        some y8.2)
    fun v3 =>
   eV F a0 n v3 (IntKind.i64.wrap (v2+(1:Int)))
  else
   some v1
/-- printworks/token.printedText -/
def nG (F:Nat) (a0:List UInt8):Option ((List UInt8)) :=
 call (aY F (40:Int) []) fun y9 =>
 call (eV F a0 F y9.2 (0:Int))
  fun v4 =>
 call (aY F (41:Int) v4) fun y10 =>
 chk (y10.2.length≤9223372036854775807) <|
 some y10.2
/-- printworks/token.Print -/
def bJ (F:Nat) (a0:aM):Option ((List UInt8)×Int) :=
 call (bW F a0) fun y1 =>
 bif (y1 != (0:Int)) then
  some ([],y1)
 else
  bif (a0.f0 == (1:Int)) then
   chk (-9223372036854775808≤a0.f1∧a0.f1≤9223372036854775807) <|
   some ((Lib.itoa a0.f1),(0:Int))
  else
   bif (a0.f0 == (2:Int)) then
    call (mZ F a0.f2) fun y2 =>
    chk (([47]:List UInt8).length+y2.length≤9223372036854775807) <|
    some ((([47]:List UInt8)++y2),(0:Int))
   else
    bif (a0.f0 == (3:Int)) then
     call (nG F a0.f2) fun y3 =>
     some (y3,(0:Int))
    else
     bif (a0.f0 == (4:Int)) then
      chk (-9223372036854775808≤a0.f1∧a0.f1≤9223372036854775807) <|
      chk (([64]:List UInt8).length+(Lib.itoa a0.f1).length≤9223372036854775807) <|
      some ((([64]:List UInt8)++(Lib.itoa a0.f1)),(0:Int))
     else
      bif (a0.f0 == (5:Int)) then
       some (a0.f2,(0:Int))
      else
       chk (0≤(IntKind.i64.wrap (a0.f0 - (6:Int)))∧(IntKind.i64.wrap (a0.f0 - (6:Int))) < ([([91]:List UInt8),([93]:List UInt8),([60,60]:List UInt8),([62,62]:List UInt8)]).length) <|
       dE ((([([91]:List UInt8),([93]:List UInt8),([60,60]:List UInt8),([62,62]:List UInt8)]).getD (IntKind.i64.wrap (a0.f0 - (6:Int))).toNat [])) fun z1 =>
       some (z1,(0:Int))
def jN (F:Nat) (a0:aC):Nat→Int→Option (Out Unit Int)
 | 0,_=>none
 | n+1,v1 =>
  bif (decide (v1 < (a0.f3.length:Int))) then
   chk (0≤v1∧v1 < a0.f3.length) <|
   call (bJ F (aM.mk (2:Int) 0 (a0.f3.getD v1.toNat []) 0 0)) fun y1 =>
   bif (y1.2 != (0:Int)) then
    some (.esc y1.2)
   else
    chk ((((decide (v1 > (0:Int))) == true) && true)=true→0≤(IntKind.i64.wrap (v1 - (1:Int)))∧(IntKind.i64.wrap (v1 - (1:Int))) < a0.f3.length) <|
    dE ((!(Op.bytesLess (a0.f3.getD (IntKind.i64.wrap (v1 - (1:Int))).toNat []) (a0.f3.getD v1.toNat [])))) fun z1 =>
    bif (bif (decide (v1 > (0:Int))) then z1 else false) then
     some (.esc (4:Int))
    else
     jN F a0 n (IntKind.i64.wrap (v1+(1:Int)))
  else
   some (.go ())
/-- printworks/object.node -/
def uB (F:Nat) (a0:aC) (a1:Int):Option Int :=
 dE ((bif (bif (a0.f0 == (1:Int)) then true else (a0.f0 == (2:Int))) then true else (a0.f0 == (5:Int)))) fun z2 =>
 bif (bif (decide (a0.f0 < (0:Int))) then true else (decide (a0.f0 > (7:Int)))) then
  some (14:Int)
 else
  bif (decide (a1 > (12:Int))) then
   some (15:Int)
  else
   call (bif (bif (a0.f1 != (0:Int)) then (!z2) else false) then
     some (bif (a0.f1 != (0:Int)) then (!z2) else false)
    else
     dE ((bif (!(a0.f2 == [])) then (!(bif (a0.f0 == (3:Int)) then true else (a0.f0 == (4:Int)))) else false)) fun z3 =>
     bif z3 then
      some z3
     else
      dE ((bif (decide ((a0.f4.length:Int) > (0:Int))) then (!(bif (a0.f0 == (6:Int)) then true else (a0.f0 == (7:Int)))) else false)) fun z4 =>
      some z4)
    fun v2 =>
   bif v2 then
    some (4:Int)
   else
    call (bif (bif (a0.f0 == (7:Int)) then ((a0.f3.length:Int) != (a0.f4.length:Int)) else false) then
      some (bif (a0.f0 == (7:Int)) then ((a0.f3.length:Int) != (a0.f4.length:Int)) else false)
     else
      some (bif (a0.f0 != (7:Int)) then (decide ((a0.f3.length:Int) > (0:Int))) else false))
     fun v3 =>
    bif v3 then
     some (4:Int)
    else
     dE ((bif (bif (a0.f0 == (1:Int)) then (a0.f1 != (0:Int)) else false) then (a0.f1 != (1:Int)) else false)) fun z5 =>
     bif z5 then
      some (3:Int)
     else
      bif (decide ((a0.f4.length:Int) > (256:Int))) then
       some (2:Int)
      else
       dO (jN F a0 F (0:Int))
        (fun e=>some e) fun _ =>
       some (0:Int)
/-- internal/strconv.FormatBool -/
def internal_strconv_FormatBool (F:Nat) (a0:Bool):Option ((List UInt8)) :=
 bif a0 then
  some ([116,114,117,101]:List UInt8)
 else
  some ([102,97,108,115,101]:List UInt8)
/-- strconv.FormatBool -/
def strconv_FormatBool (F:Nat) (a0:Bool):Option ((List UInt8)) :=
 call (internal_strconv_FormatBool F a0) fun y1 =>
 some y1
def dC (F:Nat) (a0:aC) (a1:Int) (rec_object_printer_add:aC→Int→(List aM)→Int→Option (Int×(List aM)×Int)):Nat→Int→(List aM)→Int→Option (Out ((List aM)×Int) (Int×(List aM)×Int))
 | 0,_,_,_=>none
 | n+1,v1,v2,v3 =>
  bif (decide (v1 < (a0.f4.length:Int))) then
   chk (0≤v1∧v1 < a0.f4.length) <|
   call (bif (a0.f0 == (7:Int)) then
     chk (0≤v1∧v1 < a0.f3.length) <|
     chk (v2.length+([(aM.mk (2:Int) 0 (a0.f3.getD v1.toNat []) 0 0)]).length≤4294967296) <|
     some (v2++([(aM.mk (2:Int) 0 (a0.f3.getD v1.toNat []) 0 0)]))
    else
     some v2)
    fun v4 =>
   call (rec_object_printer_add (a0.f4.getD v1.toNat (aC.mk 0 0 [] [] [])) (IntKind.i64.wrap (a1+(1:Int))) v4 v3) fun y1 =>
   bif (y1.1 != (0:Int)) then
    some (.esc (y1.1,y1.2.1,y1.2.2))
   else
    dC F a0 a1 rec_object_printer_add n (IntKind.i64.wrap (v1+(1:Int))) y1.2.1 y1.2.2
  else
   some (.go (v2,v3))
/-- (*printworks/object.printer).nested -/
def fF (F:Nat) (rec_object_printer_add:aC→Int→(List aM)→Int→Option (Int×(List aM)×Int)) (a0:aC) (a1:Int) (c2:List aM) (c3:Int):Option (Int×(List aM)×Int) :=
 call (bif (a0.f0 == (7:Int)) then
   some ((8:Int),(9:Int))
  else
   some ((6:Int),(7:Int)))
  fun (v5,v6) =>
 chk (c2.length+([(aM.mk v5 0 [] 0 0)]).length≤4294967296) <|
 dO (dC F a0 a1 rec_object_printer_add F (0:Int) (c2++([(aM.mk v5 0 [] 0 0)])) c3)
  (fun e=>some e) fun (v7,v8) =>
 chk (v7.length+([(aM.mk v6 0 [] 0 0)]).length≤4294967296) <|
 some ((0:Int),(v7++([(aM.mk v6 0 [] 0 0)])),v8)
/-- (*printworks/object.printer).add -/
def eH (F:Nat) (rec_object_printer_add:aC→Int→(List aM)→Int→Option (Int×(List aM)×Int)) (a0:aC) (a1:Int) (c2:List aM) (c3:Int):Option (Int×(List aM)×Int) :=
 bif (decide ((IntKind.i64.wrap (c3+(1:Int))) > (4096:Int))) then
  some ((2:Int),c2,IntKind.i64.wrap (c3+(1:Int)))
 else
  call (uB F a0 a1) fun y1 =>
  bif (y1 != (0:Int)) then
   some (y1,c2,IntKind.i64.wrap (c3+(1:Int)))
  else
   dO (bif (a0.f0 == (0:Int)) then
     some (.go (([110,117,108,108]:List UInt8),(5:Int),0))
    else
     bif (a0.f0 == (1:Int)) then
      call (strconv_FormatBool F (a0.f1 == (1:Int))) fun y2 =>
      some (.go (y2,(5:Int),0))
     else
      bif (a0.f0 == (2:Int)) then
       some (.go ([],(1:Int),a0.f1))
      else
       bif (a0.f0 == (3:Int)) then
        some (.go (a0.f2,(2:Int),0))
       else
        bif (a0.f0 == (4:Int)) then
         some (.go (a0.f2,(3:Int),0))
        else
         bif (a0.f0 == (5:Int)) then
          some (.go ([],(4:Int),a0.f1))
         else
          call (fF F rec_object_printer_add a0 a1 c2 (IntKind.i64.wrap (c3+(1:Int)))) fun y3 =>
          some (.esc (y3.1,y3.2.1,y3.2.2)))
    (fun e=>some e) fun (v1,v2,v3) =>
   chk (c2.length+([(aM.mk v2 v3 v1 0 0)]).length≤4294967296) <|
   call (bJ F (aM.mk v2 v3 v1 0 0)) fun y4 =>
   some (y4.2,(c2++([(aM.mk v2 v3 v1 0 0)])),IntKind.i64.wrap (c3+(1:Int)))
def dR (F:Nat):Nat→aC→Int→(List aM)→Int→Option (Int×(List aM)×Int)
 | 0=>fun _ _ _ _=>none
 | n+1=>eH F (dR F n)
def qE (F:Nat) (a0:aC) (a1:Int) (c2:List aM) (c3:Int):Option (Int×(List aM)×Int):=dR F F a0 a1 c2 c3
/-- printworks/token.white -/
def qP (F:Nat) (a0:Int):Option Bool :=
 some (bif (bif (a0 == (32:Int)) then true else (a0 == (9:Int))) then true else (a0 == (10:Int)))
/-- printworks/token.delimiter -/
def pH (F:Nat) (a0:Int):Option Bool :=
 dE ((decide ((Lib.indexByte ([40,41,60,62,91,93,47,64,37]:List UInt8) a0.toNat.toUInt8) ≥ (0:Int)))) fun z1 =>
 some z1
/-- printworks/token.regular -/
def jH (F:Nat) (a0:Int):Option Bool :=
 call (qP F a0) fun y1 =>
 call ((bif (((!y1) == true) && true) then pH F a0 else some false)) fun y2 =>
 some (bif (!y1) then (!y2) else false)
/-- (*strings.Builder).Len -/
def dU (F:Nat) (c0:List UInt8):Option (Int×(List UInt8)) :=
 some ((c0.length:Int),c0)
def kE (F:Nat) (a0:List aM):Nat→(List UInt8)→Bool→Int→Option (Out ((List UInt8)) ((List UInt8)×Int))
 | 0,_,_,_=>none
 | n+1,v1,v2,v3 =>
  bif (decide (v3 < (a0.length:Int))) then
   chk (0≤v3∧v3 < a0.length) <|
   call (bJ F (a0.getD v3.toNat (aM.mk 0 0 [] 0 0))) fun y1 =>
   bif (y1.2 != (0:Int)) then
    some (.esc ([],y1.2))
   else
    call (chk (((v2 == true) && true)=true→0≤(0:Int)∧(0:Int) < y1.1.length) <|
     call ((bif ((v2 == true) && true) then jH F ((y1.1.getD (0:Int).toNat 0).toNat:Int) else some false)) fun y2 =>
     bif (bif v2 then y2 else false) then
      call (aY F (32:Int) v1) fun y3 =>
      some y3.2
     else
      some v1)
     fun v4 =>
    call (bS F y1.1 v4) fun y4 =>
    call (dU F y4.2.2) fun y5 =>
    bif (decide (y5.1 > (8192:Int))) then
     some (.esc ([],(2:Int)))
    else
     chk (0≤(IntKind.i64.wrap ((y1.1.length:Int) - (1:Int)))∧(IntKind.i64.wrap ((y1.1.length:Int) - (1:Int))) < y1.1.length) <|
     call (jH F ((y1.1.getD (IntKind.i64.wrap ((y1.1.length:Int) - (1:Int))).toNat 0).toNat:Int)) fun y6 =>
     kE F a0 n y4.2.2 y6 (IntKind.i64.wrap (v3+(1:Int)))
  else
   some (.go v1)
/-- printworks/token.Join -/
def zC (F:Nat) (a0:List aM):Option ((List UInt8)×Int) :=
 dO (kE F a0 F [] false (0:Int))
  (fun e=>some e) fun v5 =>
 chk (v5.length≤9223372036854775807) <|
 some (v5,(0:Int))
/-- printworks/object.Print -/
def mK (F:Nat) (a0:aC):Option ((List UInt8)×Int) :=
 call (qE F a0 (1:Int) [] 0) fun y1 =>
 bif (y1.1 != (0:Int)) then
  some ([],y1.1)
 else
  call (zC F y1.2.1) fun y2 =>
  some (y2.1,y2.2)
/-- printworks/object.Check -/
def jL (F:Nat) (a0:aC):Option Int :=
 call (mK F a0) fun y1 =>
 some y1.2
/-- cmp.isNaN[string] -/
def cmp_isNaN_string (F:Nat) (a0:List UInt8):Option Bool :=
 some (!(a0 == a0))
/-- cmp.Less[string] -/
def cmp_Less_string (F:Nat) (a0:List UInt8) (a1:List UInt8):Option Bool :=
 call (cmp_isNaN_string F a0) fun y1 =>
 call ((bif ((y1 == true) && true) then cmp_isNaN_string F a1 else some false)) fun y2 =>
 some (bif (bif y1 then (!y2) else false) then true else (Op.bytesLess a0 a1))
/-- slices.isNaN[string] -/
def slices_isNaN_string (F:Nat) (a0:List UInt8):Option Bool :=
 some (!(a0 == a0))
def eW (F:Nat) (a0:List (List UInt8)) (a1:List UInt8):Nat→Int→Int→Option Int
 | 0,_,_=>none
 | n+1,v1,v2 =>
  bif (decide (v1 < v2)) then
   dE (((IntKind.u64.wrap (IntKind.i64.wrap (v1+v2))).fdiv (2 ^ (min (1:Int).toNat IntKind.u64.bits)))) fun z1 =>
   chk (0≤(IntKind.i64.wrap z1)∧(IntKind.i64.wrap z1) < a0.length) <|
   call (cmp_Less_string F (a0.getD (IntKind.i64.wrap z1).toNat []) a1) fun y1 =>
   bif y1 then
    eW F a0 a1 n (IntKind.i64.wrap ((IntKind.i64.wrap z1)+(1:Int))) v2
   else
    eW F a0 a1 n v1 (IntKind.i64.wrap z1)
  else
   some v1
/-- slices.BinarySearch[[]string,string] -/
def slices_BinarySearch_string (F:Nat) (a0:List (List UInt8)) (a1:List UInt8):Option (Int×Bool) :=
 call (eW F a0 a1 F (0:Int) (a0.length:Int))
  fun v3 =>
 chk ((((decide (v3 < (a0.length:Int))) == true) && true)=true→0≤v3∧v3 < a0.length) <|
 chk (((((a0.getD v3.toNat []) == a1) == false) && (((decide (v3 < (a0.length:Int))) == true) && true))=true→0≤v3∧v3 < a0.length) <|
 call ((bif ((((a0.getD v3.toNat []) == a1) == false) && (((decide (v3 < (a0.length:Int))) == true) && true)) then slices_isNaN_string F (a0.getD v3.toNat []) else some false)) fun y2 =>
 call ((bif ((y2 == true) && ((((a0.getD v3.toNat []) == a1) == false) && (((decide (v3 < (a0.length:Int))) == true) && true))) then slices_isNaN_string F a1 else some false)) fun y3 =>
 dE ((bif (decide (v3 < (a0.length:Int))) then (bif ((a0.getD v3.toNat []) == a1) then true else (bif y2 then y3 else false)) else false)) fun z2 =>
 some (v3,z2)
/-- printworks/object.step -/
def aF2 (F:Nat) (a0:aC) (a1:List UInt8):Option (Int×Bool×Int) :=
 bif (a0.f0 == (7:Int)) then
  call (slices_BinarySearch_string F a0.f3 a1) fun y1 =>
  some (y1.1,y1.2,(0:Int))
 else
  bif (a0.f0 == (6:Int)) then
   chk ((((a1 == []) == false) && true)=true→a1.length≤9223372036854775807) <|
   dE ((bif (a1 == []) then true else (!((Lib.trimS a1 ([48,49,50,51,52,53,54,55,56,57]:List UInt8)) == [])))) fun z1 =>
   chk ((((decide ((a1.length:Int) > (1:Int))) == true) && ((z1 == false) && true))=true→0≤(0:Int)∧(0:Int) < a1.length) <|
   dE ((bif (decide ((a1.length:Int) > (1:Int))) then (((a1.getD (0:Int).toNat 0).toNat:Int) == (48:Int)) else false)) fun z2 =>
   bif (bif z1 then true else z2) then
    some ((0:Int),false,(4:Int))
   else
    chk (a1.length≤9223372036854775806) <|
    call (bG8 a1) fun y2 =>
    call (bif false then
      some (1152921504606846976:Int)
     else
      some y2)
     fun v1 =>
    some (v1,(decide (v1 < (a0.f4.length:Int))),(0:Int))
  else
   some ((0:Int),false,(14:Int))
/-- slices.Clone[[]string,string] -/
def slices_Clone_string (F:Nat) (a0:List (List UInt8)):Option ((List (List UInt8))) :=
 chk (([]:List (List UInt8)).length+a0.length≤4294967296) <|
 some (([]:List (List UInt8))++a0)
/-- slices.Clone[[]printworks/api.Object,printworks/api.Object] -/
def oQ (F:Nat) (a0:List aC):Option ((List aC)) :=
 chk (([]:List aC).length+a0.length≤4294967296) <|
 some (([]:List aC)++a0)
def pJ (F:Nat) (y1:(List aC)) (rec_object_clone:aC→Option aC):Nat→(List aC)→Int→Option ((List aC))
 | 0,_,_=>none
 | n+1,v1,v2 =>
  bif (decide (v2 < (y1.length:Int))) then
   chk (0≤v2∧v2 < v1.length) <|
   call (rec_object_clone (v1.getD v2.toNat (aC.mk 0 0 [] [] []))) fun y2 =>
   chk (0≤v2∧v2 < v1.length) <|
   pJ F y1 rec_object_clone n (v1.set v2.toNat y2) (IntKind.i64.wrap (v2+(1:Int)))
  else
   some v1
/-- printworks/object.clone -/
def rA (F:Nat) (rec_object_clone:aC→Option aC) (a0:aC):Option aC :=
 call (slices_Clone_string F a0.f3) fun y3 =>
 call (oQ F a0.f4) fun y1 =>
 call (pJ F y1 rec_object_clone F y1 (0:Int))
  fun v3 =>
 some (aC.mk a0.f0 a0.f1 a0.f2 y3 v3)
def qZ (F:Nat):Nat→aC→Option aC
 | 0=>fun _=>none
 | n+1=>rA F (qZ F n)
def aO5 (F:Nat) (a0:aC):Option aC:=qZ F F a0
def pB (F:Nat) (a1:List (List UInt8)):Nat→Int→Int→(List UInt8)→(List (List UInt8))→(List aC)→Int→Option (Out (Int×Int×(List UInt8)×(List (List UInt8))×(List aC)) (aC×Int))
 | 0,_,_,_,_,_,_=>none
 | n+1,v1,v2,v3,v4,v5,v6 =>
  bif (decide (v6 < (a1.length:Int))) then
   chk (0≤v6∧v6 < a1.length) <|
   call (aF2 F (aC.mk v1 v2 v3 v4 v5) (a1.getD v6.toNat [])) fun y1 =>
   bif (y1.2.2 != (0:Int)) then
    some (.esc ((aC.mk 0 0 [] [] []),y1.2.2))
   else
    bif (!y1.2.1) then
     some (.esc ((aC.mk 0 0 [] [] []),(8:Int)))
    else
     chk (0≤y1.1∧y1.1 < v5.length) <|
     pB F a1 n ((v5.getD y1.1.toNat (aC.mk 0 0 [] [] [])).f0) ((v5.getD y1.1.toNat (aC.mk 0 0 [] [] [])).f1) ((v5.getD y1.1.toNat (aC.mk 0 0 [] [] [])).f2) ((v5.getD y1.1.toNat (aC.mk 0 0 [] [] [])).f3) ((v5.getD y1.1.toNat (aC.mk 0 0 [] [] [])).f4) (IntKind.i64.wrap (v6+(1:Int)))
  else
   some (.go (v1,v2,v3,v4,v5))
/-- printworks/object.Get -/
def aK8 (F:Nat) (a0:aC) (a1:List (List UInt8)):Option (aC×Int) :=
 call (jL F a0) fun y2 =>
 bif (y2 != (0:Int)) then
  some ((aC.mk 0 0 [] [] []),y2)
 else
  dO (pB F a1 F a0.f0 a0.f1 a0.f2 a0.f3 a0.f4 (0:Int))
   (fun e=>some e) fun (v7,v8,v9,v10,v11) =>
  call (aO5 F (aC.mk v7 v8 v9 v10 v11)) fun y3 =>
  some (y3,(0:Int))
/-- printworks/printworkslaw3.oneItem -/
def vD (F:Nat)  : Option bC :=
 some (bC.mk (1:Int) ([(aJ.mk (1:Int) (aC.mk (7:Int) 0 [] [] []) [])]))
def gC (F:Nat) (a0:aC) (rec_object_Refs_c1:aC→(List Int)→Option ((List Int))):Nat→Int→(List Int)→Option ((List Int))
 | 0,_,_=>none
 | n+1,v1,v2 =>
  bif (decide (v1 < (a0.f4.length:Int))) then
   chk (0≤v1∧v1 < a0.f4.length) <|
   call (rec_object_Refs_c1 (a0.f4.getD v1.toNat (aC.mk 0 0 [] [] [])) v2) fun y1 =>
   gC F a0 rec_object_Refs_c1 n (IntKind.i64.wrap (v1+(1:Int))) y1
  else
   some v2
/-- printworks/object.Refs$1 -/
def jT (F:Nat) (rec_object_Refs_c1:aC→(List Int)→Option ((List Int))) (a0:aC) (c1:List Int):Option ((List Int)) :=
 call (bif (a0.f0 == (5:Int)) then
   chk (c1.length+([a0.f1]).length≤4294967296) <|
   some (c1++([a0.f1]))
  else
   some c1)
  fun v3 =>
 call (gC F a0 rec_object_Refs_c1 F (0:Int) v3)
  fun v4 =>
 some v4
def fZ (F:Nat):Nat→aC→(List Int)→Option ((List Int))
 | 0=>fun _ _=>none
 | n+1=>jT F (fZ F n)
def vW (F:Nat) (a0:aC) (c1:List Int):Option ((List Int)):=fZ F F a0 c1
/-- printworks/object.Refs -/
def qO (F:Nat) (a0:aC):Option ((List Int)×Int) :=
 call (jL F a0) fun y1 =>
 bif (y1 != (0:Int)) then
  some ([],y1)
 else
  call (vW F a0 []) fun y2 =>
  chk (y2.length≤4294967296) <|
  chk ((nI y2).length≤4294967296) <|
  some ((Lib.compact (nI y2)),(0:Int))
/-- printworks/pagefile.find$1 -/
def oF (F:Nat) (a0:aJ) (a1:Int):Option Int :=
 some (IntKind.i64.wrap (a0.f0 - a1))
def bU (F:Nat) (a0:List aJ) (a1:Int):Nat→Int→Int→Option Int
 | 0,_,_=>none
 | n+1,v1,v2 =>
  bif (decide (v1 < v2)) then
   dE (((IntKind.u64.wrap (IntKind.i64.wrap (v1+v2))).fdiv (2 ^ (min (1:Int).toNat IntKind.u64.bits)))) fun z1 =>
   chk (0≤(IntKind.i64.wrap z1)∧(IntKind.i64.wrap z1) < a0.length) <|
   call (oF F (a0.getD (IntKind.i64.wrap z1).toNat (aJ.mk 0 (aC.mk 0 0 [] [] []) [])) a1) fun y1 =>
   bif (decide (y1 < (0:Int))) then
    bU F a0 a1 n (IntKind.i64.wrap ((IntKind.i64.wrap z1)+(1:Int))) v2
   else
    bU F a0 a1 n v1 (IntKind.i64.wrap z1)
  else
   some v1
/-- slices.BinarySearchFunc[[]printworks/api.PageItem,printworks/api.PageItem,int] -/
def gU (F:Nat) (a0:List aJ) (a1:Int):Option (Int×Bool) :=
 call (bU F a0 a1 F (0:Int) (a0.length:Int))
  fun v3 =>
 chk ((((decide (v3 < (a0.length:Int))) == true) && true)=true→0≤v3∧v3 < a0.length) <|
 call ((bif (((decide (v3 < (a0.length:Int))) == true) && true) then oF F (a0.getD v3.toNat (aJ.mk 0 (aC.mk 0 0 [] [] []) [])) a1 else some 0)) fun y2 =>
 some (v3,(bif (decide (v3 < (a0.length:Int))) then (y2 == (0:Int)) else false))
/-- printworks/pagefile.find -/
def gW (F:Nat) (a0:bC) (a1:Int):Option (Int×Bool) :=
 call (gU F a0.f1 a1) fun y1 =>
 some (y1.1,y1.2)
def eT (F:Nat) (a0:bC):Nat→Int→Int→Option (Out Unit Int)
 | 0,_,_=>none
 | n+1,v1,v2 =>
  bif (decide (v2 < (a0.f1.length:Int))) then
   chk (0≤v2∧v2 < a0.f1.length) <|
   dE ((decide (((a0.f1.getD v2.toNat (aJ.mk 0 (aC.mk 0 0 [] [] []) [])).f0) > (255:Int)))) fun z1 =>
   dE ((bif (decide (((a0.f1.getD v2.toNat (aJ.mk 0 (aC.mk 0 0 [] [] []) [])).f0) < (1:Int))) then true else z1)) fun z2 =>
   bif z2 then
    some (.esc (3:Int))
   else
    bif (decide (((a0.f1.getD v2.toNat (aJ.mk 0 (aC.mk 0 0 [] [] []) [])).f0)≤v1)) then
     some (.esc (18:Int))
    else
     call (jL F ((a0.f1.getD v2.toNat (aJ.mk 0 (aC.mk 0 0 [] [] []) [])).f1)) fun y1 =>
     bif (y1 != (0:Int)) then
      some (.esc y1)
     else
      dE ((decide ((((a0.f1.getD v2.toNat (aJ.mk 0 (aC.mk 0 0 [] [] []) [])).f2).length:Int) > (4096:Int)))) fun z3 =>
      bif z3 then
       some (.esc (2:Int))
      else
       eT F a0 n ((a0.f1.getD v2.toNat (aJ.mk 0 (aC.mk 0 0 [] [] []) [])).f0) (IntKind.i64.wrap (v2+(1:Int)))
  else
   some (.go ())
def dY (F:Nat) (a0:bC) (y2:(List Int)×Int):Nat→Int→Option (Out Unit Int)
 | 0,_=>none
 | n+1,v3 =>
  bif (decide (v3 < (y2.1.length:Int))) then
   chk (0≤v3∧v3 < y2.1.length) <|
   call (gW F a0 (y2.1.getD v3.toNat 0)) fun y3 =>
   bif (!y3.2) then
    some (.esc (8:Int))
   else
    dY F a0 y2 n (IntKind.i64.wrap (v3+(1:Int)))
  else
   some (.go ())
def eU (F:Nat) (a0:bC):Nat→Int→Option (Out Unit Int)
 | 0,_=>none
 | n+1,v4 =>
  bif (decide (v4 < (a0.f1.length:Int))) then
   chk (0≤v4∧v4 < a0.f1.length) <|
   call (qO F ((a0.f1.getD v4.toNat (aJ.mk 0 (aC.mk 0 0 [] [] []) [])).f1)) fun y2 =>
   dO (dY F a0 y2 F (0:Int))
    (fun e=>some (.esc e)) fun _ =>
   eU F a0 n (IntKind.i64.wrap (v4+(1:Int)))
  else
   some (.go ())
/-- printworks/pagefile.Check -/
def kJ (F:Nat) (a0:bC):Option Int :=
 bif (decide ((a0.f1.length:Int) > (64:Int))) then
  some (2:Int)
 else
  dO (eT F a0 F (0:Int) (0:Int))
   (fun e=>some e) fun _ =>
  dO (eU F a0 F (0:Int))
   (fun e=>some e) fun _ =>
  call (gW F a0 a0.f0) fun y4 =>
  bif (!y4.2) then
   some (8:Int)
  else
   chk (0≤y4.1∧y4.1 < a0.f1.length) <|
   bif ((((a0.f1.getD y4.1.toNat (aJ.mk 0 (aC.mk 0 0 [] [] []) [])).f1).f0) != (7:Int)) then
    some (14:Int)
   else
    some (0:Int)
/-- (*strings.Builder).WriteString -/
def jC (F:Nat) (a0:List UInt8) (c1:List UInt8) (c2:Int) (c3:Int) (c4:Int) (c5:List aJ):Option (Int×Unit×(List UInt8)×Int×Int×Int×(List aJ)) :=
 chk (c1.length+a0.length≤4294967296) <|
 some ((a0.length:Int),(),(c1++a0),c2,c3,c4,c5)
def kC (F:Nat) (a0:List (List UInt8)) (a1:List (List UInt8)):Nat→Int→Option (Out Unit Bool)
 | 0,_=>none
 | n+1,v1 =>
  bif (decide (v1 < (a0.length:Int))) then
   chk (0≤v1∧v1 < a0.length) <|
   chk (0≤v1∧v1 < a1.length) <|
   bif (!((a0.getD v1.toNat []) == (a1.getD v1.toNat []))) then
    some (.esc false)
   else
    kC F a0 a1 n (IntKind.i64.wrap (v1+(1:Int)))
  else
   some (.go ())
/-- slices.Equal[[]string,string] -/
def slices_Equal_string (F:Nat) (a0:List (List UInt8)) (a1:List (List UInt8)):Option Bool :=
 bif ((a0.length:Int) != (a1.length:Int)) then
  some false
 else
  dO (kC F a0 a1 F (0:Int))
   (fun e=>some e) fun _ =>
  some true
def iA (F:Nat) (a0:List aC) (a1:List aC) (rec_object_Same:aC→aC→Option Bool):Nat→Int→Option (Out Unit Bool)
 | 0,_=>none
 | n+1,v1 =>
  bif (decide (v1 < (a0.length:Int))) then
   chk (0≤v1∧v1 < a0.length) <|
   chk (0≤v1∧v1 < a1.length) <|
   call (rec_object_Same (a0.getD v1.toNat (aC.mk 0 0 [] [] [])) (a1.getD v1.toNat (aC.mk 0 0 [] [] []))) fun y1 =>
   bif (!y1) then
    some (.esc false)
   else
    iA F a0 a1 rec_object_Same n (IntKind.i64.wrap (v1+(1:Int)))
  else
   some (.go ())
/-- slices.EqualFunc[[]printworks/api.Object,[]printworks/api.Object,printworks/api.Object,printworks/api.Object] -/
def mD (F:Nat) (rec_object_Same:aC→aC→Option Bool) (a0:List aC) (a1:List aC):Option Bool :=
 bif ((a0.length:Int) != (a1.length:Int)) then
  some false
 else
  dO (iA F a0 a1 rec_object_Same F (0:Int))
   (fun e=>some e) fun _ =>
  some true
/-- printworks/object.Same -/
def sM (F:Nat) (rec_object_Same:aC→aC→Option Bool) (a0:aC) (a1:aC):Option Bool :=
 call ((bif (((bif (bif (a0.f0 == a1.f0) then (a0.f1 == a1.f1) else false) then (a0.f2 == a1.f2) else false) == true) && true) then slices_Equal_string F a0.f3 a1.f3 else some false)) fun y1 =>
 dE ((bif (bif (bif (a0.f0 == a1.f0) then (a0.f1 == a1.f1) else false) then (a0.f2 == a1.f2) else false) then y1 else false)) fun z1 =>
 call ((bif ((z1 == true) && true) then mD F rec_object_Same a0.f4 a1.f4 else some false)) fun y2 =>
 some (bif z1 then y2 else false)
def sF (F:Nat):Nat→aC→aC→Option Bool
 | 0=>fun _ _=>none
 | n+1=>sM F (sF F n)
def aT2 (F:Nat) (a0:aC) (a1:aC):Option Bool:=sF F F a0 a1
/-- printworks/pagefile.same -/
def sW (F:Nat) (a0:aJ) (a1:aJ):Option Bool :=
 call ((bif (((bif (a0.f0 == a1.f0) then (a0.f2 == a1.f2) else false) == true) && true) then aT2 F a0.f1 a1.f1 else some false)) fun y1 =>
 some (bif (bif (a0.f0 == a1.f0) then (a0.f2 == a1.f2) else false) then y1 else false)
def gL (F:Nat) (a0:List aJ) (a1:List aJ):Nat→Int→Option (Out Unit Bool)
 | 0,_=>none
 | n+1,v1 =>
  bif (decide (v1 < (a0.length:Int))) then
   chk (0≤v1∧v1 < a0.length) <|
   chk (0≤v1∧v1 < a1.length) <|
   call (sW F (a0.getD v1.toNat (aJ.mk 0 (aC.mk 0 0 [] [] []) [])) (a1.getD v1.toNat (aJ.mk 0 (aC.mk 0 0 [] [] []) []))) fun y1 =>
   bif (!y1) then
    some (.esc false)
   else
    gL F a0 a1 n (IntKind.i64.wrap (v1+(1:Int)))
  else
   some (.go ())
/-- slices.EqualFunc[[]printworks/api.PageItem,[]printworks/api.PageItem,printworks/api.PageItem,printworks/api.PageItem] -/
def lC (F:Nat) (a0:List aJ) (a1:List aJ):Option Bool :=
 bif ((a0.length:Int) != (a1.length:Int)) then
  some false
 else
  dO (gL F a0 a1 F (0:Int))
   (fun e=>some e) fun _ =>
  some true
/-- printworks/pagefile.text -/
def tU (F:Nat)  : Option ((List dA)) :=
 some ([(dA.mk (4:Int) 0)])
def pT (F:Nat) (a0:List dA):Nat→Int→Option (Out Unit Int)
 | 0,_=>none
 | n+1,v1 =>
  bif (decide (v1 < (a0.length:Int))) then
   chk (0≤v1∧v1 < a0.length) <|
   dE ((bif (decide (((a0.getD v1.toNat (dA.mk 0 0)).f0) < (1:Int))) then true else (decide (((a0.getD v1.toNat (dA.mk 0 0)).f0) > (4:Int))))) fun z1 =>
   bif z1 then
    some (.esc (14:Int))
   else
    dE ((bif (decide (((a0.getD v1.toNat (dA.mk 0 0)).f1) < (1:Int))) then true else (decide (((a0.getD v1.toNat (dA.mk 0 0)).f1) > (1024:Int))))) fun z2 =>
    bif (bif (((a0.getD v1.toNat (dA.mk 0 0)).f0) == (2:Int)) then z2 else false) then
     some (.esc (3:Int))
    else
     dE ((bif (((a0.getD v1.toNat (dA.mk 0 0)).f0) != (2:Int)) then (((a0.getD v1.toNat (dA.mk 0 0)).f1) != (0:Int)) else false)) fun z3 =>
     bif z3 then
      some (.esc (4:Int))
     else
      pT F a0 n (IntKind.i64.wrap (v1+(1:Int)))
  else
   some (.go ())
/-- printworks/filter.Check -/
def vF (F:Nat) (a0:List dA):Option Int :=
 bif (decide ((a0.length:Int) > (4:Int))) then
  some (2:Int)
 else
  dO (pT F a0 F (0:Int))
   (fun e=>some e) fun _ =>
  some (0:Int)
/-- printworks/filter.codingOf -/
def pO (F:Nat) (a0:dA):Option fA :=
 bif (a0.f0 == (1:Int)) then
  some (fA.k_runs (dG.mk ))
 else
  bif (a0.f0 == (2:Int)) then
   some (fA.k_rows (jI.mk a0.f1))
  else
   bif (a0.f0 == (3:Int)) then
    some (fA.k_copies (dG.mk ))
   else
    some (fA.k_text (dG.mk ))
def mJ (F:Nat) (a0:List UInt8):Nat→Int→Option Int
 | 0,_=>none
 | n+1,v1 =>
  chk ((((bif (decide (v1 < (a0.length:Int))) then (decide (v1 < (128:Int))) else false) == true) && true)=true→0≤v1∧v1 < a0.length) <|
  chk ((((bif (decide (v1 < (a0.length:Int))) then (decide (v1 < (128:Int))) else false) == true) && true)=true→0≤(0:Int)∧(0:Int) < a0.length) <|
  dE ((bif (bif (decide (v1 < (a0.length:Int))) then (decide (v1 < (128:Int))) else false) then (((a0.getD v1.toNat 0).toNat:Int) == ((a0.getD (0:Int).toNat 0).toNat:Int)) else false)) fun z1 =>
  bif z1 then
   mJ F a0 n (IntKind.i64.wrap (v1+(1:Int)))
  else
   some v1
/-- printworks/filter.repeated -/
def uU (F:Nat) (a0:List UInt8):Option Int :=
 call (mJ F a0 F (1:Int))
  fun v2 =>
 some v2
def kT (F:Nat) (a1:List UInt8) (v1:Int):Nat→(List Int)→(List Int)→Int→Option ((List Int)×(List Int))
 | 0,_,_,_=>none
 | n+1,v2,v3,v4 =>
  dE ((bif (decide (v4≤(128:Int))) then (decide ((IntKind.i64.wrap (v1+v4))≤(a1.length:Int))) else false)) fun z1 =>
  bif z1 then
   call (chk (0≤(IntKind.i64.wrap (v1+v4))∧(IntKind.i64.wrap (v1+v4)) < v2.length) <|
    dE (IntKind.i64.wrap ((IntKind.i64.wrap ((1:Int)+v4))+(v2.getD (IntKind.i64.wrap (v1+v4)).toNat 0))) fun z2 =>
    chk (0≤v1∧v1 < v2.length) <|
    bif (decide (z2 < (v2.getD v1.toNat 0))) then
     chk (0≤v1∧v1 < v2.length) <|
     chk (0≤v1∧v1 < v3.length) <|
     some ((v2.set v1.toNat z2),(v3.set v1.toNat v4))
    else
     some (v2,v3))
    fun (v5,v6) =>
   kT F a1 v1 n v5 v6 (IntKind.i64.wrap (v4+(1:Int)))
  else
   some (v2,v3)
def kP (F:Nat) (a1:List UInt8):Nat→(List Int)→(List Int)→Int→Option ((List Int))
 | 0,_,_,_=>none
 | n+1,v7,v8,v1 =>
  bif (decide (v1 ≥ (0:Int))) then
   chk (0≤v1∧v1≤(a1.length:Int)∧(a1.length:Int)≤(a1.length:Int)) <|
   call (uU F ((a1.drop v1.toNat).take ((a1.length:Int).toNat - v1.toNat))) fun y1 =>
   chk (0≤(IntKind.i64.wrap (v1+y1))∧(IntKind.i64.wrap (v1+y1)) < v7.length) <|
   chk (0≤v1∧v1 < v7.length) <|
   chk (0≤v1∧v1 < v8.length) <|
   call (bif (y1 == (1:Int)) then
     chk (0≤(IntKind.i64.wrap (v1+(1:Int)))∧(IntKind.i64.wrap (v1+(1:Int))) < (v7.set v1.toNat (IntKind.i64.wrap ((2:Int)+(v7.getD (IntKind.i64.wrap (v1+y1)).toNat 0)))).length) <|
     dE (((v7.set v1.toNat (IntKind.i64.wrap ((2:Int)+(v7.getD (IntKind.i64.wrap (v1+y1)).toNat 0)))).getD (IntKind.i64.wrap (v1+(1:Int))).toNat 0)) fun z3 =>
     chk (0≤v1∧v1 < (v7.set v1.toNat (IntKind.i64.wrap ((2:Int)+(v7.getD (IntKind.i64.wrap (v1+y1)).toNat 0)))).length) <|
     chk (0≤v1∧v1 < (v8.set v1.toNat (IntKind.i64.wrap (0 - y1))).length) <|
     some (((v7.set v1.toNat (IntKind.i64.wrap ((2:Int)+(v7.getD (IntKind.i64.wrap (v1+y1)).toNat 0)))).set v1.toNat (IntKind.i64.wrap ((2:Int)+z3))),((v8.set v1.toNat (IntKind.i64.wrap (0 - y1))).set v1.toNat (1:Int)))
    else
     some ((v7.set v1.toNat (IntKind.i64.wrap ((2:Int)+(v7.getD (IntKind.i64.wrap (v1+y1)).toNat 0)))),(v8.set v1.toNat (IntKind.i64.wrap (0 - y1)))))
    fun (v9,v10) =>
   call (kT F a1 v1 F v9 v10 (1:Int))
    fun (v11,v12) =>
   kP F a1 n v11 v12 (IntKind.i64.wrap (v1 - (1:Int)))
  else
   some v8
def jB (F:Nat) (a1:List UInt8) (v13:List Int):Nat→(List UInt8)→Int→Option ((List UInt8))
 | 0,_,_=>none
 | n+1,v14,v15 =>
  bif (decide (v15 < (a1.length:Int))) then
   chk (0≤v15∧v15 < v13.length) <|
   bif (decide ((v13.getD v15.toNat 0) < (0:Int))) then
    call (aY F (IntKind.u8.wrap (IntKind.i64.wrap ((257:Int)+(v13.getD v15.toNat 0)))) v14) fun y2 =>
    chk (0≤v15∧v15 < a1.length) <|
    call (aY F ((a1.getD v15.toNat 0).toNat:Int) y2.2) fun y3 =>
    jB F a1 v13 n y3.2 (IntKind.i64.wrap (v15 - (v13.getD v15.toNat 0)))
   else
    call (aY F (IntKind.u8.wrap (IntKind.i64.wrap ((v13.getD v15.toNat 0) - (1:Int)))) v14) fun y4 =>
    chk (0≤v15∧v15≤(IntKind.i64.wrap (v15+(v13.getD v15.toNat 0)))∧(IntKind.i64.wrap (v15+(v13.getD v15.toNat 0)))≤(a1.length:Int)) <|
    dE (((a1.drop v15.toNat).take ((IntKind.i64.wrap (v15+(v13.getD v15.toNat 0))).toNat - v15.toNat))) fun z4 =>
    call (bS F z4 y4.2) fun y5 =>
    jB F a1 v13 n y5.2.2 (IntKind.i64.wrap (v15+(v13.getD v15.toNat 0)))
  else
   some v14
/-- (printworks/filter.runs).encode -/
def qC (F:Nat) (a0:dG) (a1:List UInt8):Option ((List UInt8)) :=
 chk (0≤(IntKind.i64.wrap ((a1.length:Int)+(1:Int)))∧(IntKind.i64.wrap ((a1.length:Int)+(1:Int)))≤(IntKind.i64.wrap ((a1.length:Int)+(1:Int)))∧(IntKind.i64.wrap ((a1.length:Int)+(1:Int)))≤9223372036854775807∧((8:Nat):Int) * (IntKind.i64.wrap ((a1.length:Int)+(1:Int)))≤281474976710656) <|
 chk (0≤(IntKind.i64.wrap ((a1.length:Int)+(1:Int)))∧(IntKind.i64.wrap ((a1.length:Int)+(1:Int)))≤(IntKind.i64.wrap ((a1.length:Int)+(1:Int)))∧(IntKind.i64.wrap ((a1.length:Int)+(1:Int)))≤9223372036854775807∧((8:Nat):Int) * (IntKind.i64.wrap ((a1.length:Int)+(1:Int)))≤281474976710656) <|
 call (kP F a1 F (List.replicate (IntKind.i64.wrap ((a1.length:Int)+(1:Int))).toNat 0) (List.replicate (IntKind.i64.wrap ((a1.length:Int)+(1:Int))).toNat 0) (IntKind.i64.wrap ((a1.length:Int) - (1:Int))))
  fun v13 =>
 call (jB F a1 v13 F [] (0:Int))
  fun v16 =>
 chk (v16.length≤9223372036854775807) <|
 some v16
def kR (F:Nat) (a0:jI):Nat→(List UInt8)→Int→Option ((List UInt8))
 | 0,_,_=>none
 | n+1,v1,v2 =>
  bif (decide (v2 ≥ a0.f0)) then
   chk (0≤v2∧v2 < v1.length) <|
   chk (0≤(IntKind.i64.wrap (v2 - a0.f0))∧(IntKind.i64.wrap (v2 - a0.f0)) < v1.length) <|
   dE (IntKind.u8.wrap (((v1.getD v2.toNat 0).toNat:Int) - ((v1.getD (IntKind.i64.wrap (v2 - a0.f0)).toNat 0).toNat:Int))) fun z1 =>
   chk (0≤v2∧v2 < v1.length) <|
   chk (0≤z1∧z1 < 256) <|
   kR F a0 n (v1.set v2.toNat (UInt8.ofNat z1.toNat)) (IntKind.i64.wrap (v2 - (1:Int)))
  else
   some v1
/-- (printworks/filter.rows).encode -/
def qA (F:Nat) (a0:jI) (a1:List UInt8):Option ((List UInt8)) :=
 call (kR F a0 F a1 (IntKind.i64.wrap ((a1.length:Int) - (1:Int))))
  fun v3 =>
 some v3
def pI (F:Nat) (a0:List UInt8):Nat→Int→Int→Option Int
 | 0,_,_=>none
 | n+1,v1,v2 =>
  bif (decide (v2 < (4:Int))) then
   call (bif (decide (v2 < (a0.length:Int))) then
     chk (0≤v2∧v2 < a0.length) <|
     dE (IntKind.u32.wrap ((BitVec.ofInt IntKind.u32.bits (IntKind.u32.wrap (v1 * 2 ^ (min (8:Int).toNat IntKind.u32.bits))) ||| BitVec.ofInt IntKind.u32.bits (IntKind.u32.wrap ((a0.getD v2.toNat 0).toNat:Int))).toNat:Int)) fun z1 =>
     some z1
    else
     some (IntKind.u32.wrap (v1 * 2 ^ (min (8:Int).toNat IntKind.u32.bits))))
    fun v3 =>
   pI F a0 n v3 (IntKind.i64.wrap (v2+(1:Int)))
  else
   some v1
def pM (F:Nat)  : Nat→Int→(List UInt8)→Int→Option ((List UInt8))
 | 0,_,_,_=>none
 | n+1,v4,v5,v6 =>
  bif (decide (v6 ≥ (0:Int))) then
   chk ((0≤v6∧v6 < 5)∧v6 < v5.length) <|
   chk (0≤(IntKind.u8.wrap ((33:Int)+(IntKind.u8.wrap (v4.tmod (85:Int)))))∧(IntKind.u8.wrap ((33:Int)+(IntKind.u8.wrap (v4.tmod (85:Int))))) < 256) <|
   pM F n (IntKind.u32.wrap (v4.tdiv (85:Int))) (v5.set v6.toNat (UInt8.ofNat (IntKind.u8.wrap ((33:Int)+(IntKind.u8.wrap (v4.tmod (85:Int))))).toNat)) (IntKind.i64.wrap (v6 - (1:Int)))
  else
   some v5
/-- printworks/filter.group -/
def vG (F:Nat) (a0:List UInt8):Option ((List UInt8)) :=
 call (pI F a0 F (0:Int) (0:Int))
  fun v7 =>
 bif (bif (v7 == (0:Int)) then ((a0.length:Int) == (4:Int)) else false) then
  some ([122]:List UInt8)
 else
  call (pM F F v7 (List.replicate 5 0) (4:Int))
   fun v8 =>
  chk ((0≤(0:Int)∧(0:Int)≤(IntKind.i64.wrap ((a0.length:Int)+(1:Int)))∧(IntKind.i64.wrap ((a0.length:Int)+(1:Int)))≤((5:Nat):Int))∧v8.length=5) <|
  dE (((v8.drop (0:Int).toNat).take ((IntKind.i64.wrap ((a0.length:Int)+(1:Int))).toNat - (0:Int).toNat))) fun z2 =>
  some z2
def kV (F:Nat)  : Nat→(List UInt8)→(List UInt8)→Option ((List UInt8))
 | 0,_,_=>none
 | n+1,v1,v2 =>
  bif (!(v1 == [])) then
   chk (0≤(0:Int)∧(0:Int)≤(if (4:Int) < (v1.length:Int) then (4:Int) else (v1.length:Int))∧(if (4:Int) < (v1.length:Int) then (4:Int) else (v1.length:Int))≤(v1.length:Int)) <|
   dE (((v1.drop (0:Int).toNat).take ((if (4:Int) < (v1.length:Int) then (4:Int) else (v1.length:Int)).toNat - (0:Int).toNat))) fun z1 =>
   call (vG F z1) fun y1 =>
   call (bS F y1 v2) fun y2 =>
   chk (0≤(if (4:Int) < (v1.length:Int) then (4:Int) else (v1.length:Int))∧(if (4:Int) < (v1.length:Int) then (4:Int) else (v1.length:Int))≤(v1.length:Int)∧(v1.length:Int)≤(v1.length:Int)) <|
   dE (((v1.drop (if (4:Int) < (v1.length:Int) then (4:Int) else (v1.length:Int)).toNat).take ((v1.length:Int).toNat - (if (4:Int) < (v1.length:Int) then (4:Int) else (v1.length:Int)).toNat))) fun z2 =>
   kV F n z2 y2.2.2
  else
   some v2
/-- (printworks/filter.text).encode -/
def qG (F:Nat) (a0:dG) (a1:List UInt8):Option ((List UInt8)) :=
 call (kV F F a1 [])
  fun v3 =>
 chk (v3.length≤9223372036854775807) <|
 some v3
/-- the method printworks/filter.encode -/
def jZ (F:Nat) (x:fA) (a1:List UInt8):Option ((List UInt8)) :=
 match x with
 | .nil=>none
 | .k_runs x=>qC F x a1
 | .k_rows x=>qA F x a1
 | .k_copies _=>none
 | .k_text x=>qG F x a1
/-- strings.Clone -/
def tQ (F:Nat) (a0:List UInt8):Option ((List UInt8)) :=
 chk (a0.length≤281474976710656) <|
 some a0
def oL (F:Nat) (a0:List dA):Nat→(List UInt8)→Int→Option ((List UInt8))
 | 0,_,_=>none
 | n+1,v1,v2 =>
  bif (decide (v2 < (a0.length:Int))) then
   chk (0≤v2∧v2 < a0.length) <|
   call (pO F (a0.getD v2.toNat (dA.mk 0 0))) fun y1 =>
   call (jZ F y1 v1) fun y2 =>
   oL F a0 n y2 (IntKind.i64.wrap (v2+(1:Int)))
  else
   some v1
/-- printworks/filter.Encode -/
def xN (F:Nat) (a0:List dA) (a1:List UInt8):Option ((List UInt8)×Int) :=
 call (vF F a0) fun y3 =>
 bif (y3 != (0:Int)) then
  some ([],y3)
 else
  bif (decide ((a1.length:Int) > (16384:Int))) then
   some ([],(2:Int))
  else
   call (oL F a0 F a1 (0:Int))
    fun v3 =>
   call (tQ F v3) fun y4 =>
   some (y4,(0:Int))
def nH (F:Nat) (a1:List Int):Nat→(List UInt8)→Int→Option ((List UInt8))
 | 0,_,_=>none
 | n+1,v1,v2 =>
  bif (decide (v2 < (a1.length:Int))) then
   chk (0≤v2∧v2 < a1.length) <|
   chk (-9223372036854775808≤(a1.getD v2.toNat 0)∧(a1.getD v2.toNat 0)≤9223372036854775807) <|
   chk (([32]:List UInt8).length+(Lib.itoa (a1.getD v2.toNat 0)).length≤9223372036854775807) <|
   chk (v1.length+(([32]:List UInt8)++(Lib.itoa (a1.getD v2.toNat 0))).length≤9223372036854775807) <|
   nH F a1 n (v1++(([32]:List UInt8)++(Lib.itoa (a1.getD v2.toNat 0)))) (IntKind.i64.wrap (v2+(1:Int)))
  else
   some v1
/-- printworks/pagefile.words -/
def mB (F:Nat) (a0:List UInt8) (a1:List Int):Option ((List UInt8)) :=
 call (nH F a1 F a0 (0:Int))
  fun v3 =>
 some v3
def tI (F:Nat) (a0:List UInt8):Nat→Int→Int→Option Int
 | 0,_,_=>none
 | n+1,v1,v2 =>
  bif (decide (v2 < (a0.length:Int))) then
   chk (0≤v2∧v2 < a0.length) <|
   dE (IntKind.u32.wrap ((BitVec.ofInt IntKind.u32.bits v1 ^^^ BitVec.ofInt IntKind.u32.bits (IntKind.u32.wrap ((a0.getD v2.toNat 0).toNat:Int))).toNat:Int)) fun z1 =>
   dE (IntKind.u32.wrap ((BitVec.ofInt IntKind.u32.bits z1 &&& BitVec.ofInt IntKind.u32.bits (15:Int)).toNat:Int)) fun z2 =>
   chk (0≤z2∧z2 < 16) <|
   dE (IntKind.u32.wrap ((BitVec.ofInt IntKind.u32.bits (z1.fdiv (2 ^ (min (4:Int).toNat IntKind.u32.bits))) ^^^ BitVec.ofInt IntKind.u32.bits (aQ.getD z2.toNat 0)).toNat:Int)) fun z3 =>
   dE (IntKind.u32.wrap ((BitVec.ofInt IntKind.u32.bits z3 &&& BitVec.ofInt IntKind.u32.bits (15:Int)).toNat:Int)) fun z4 =>
   chk (0≤z4∧z4 < 16) <|
   dE (IntKind.u32.wrap ((BitVec.ofInt IntKind.u32.bits (z3.fdiv (2 ^ (min (4:Int).toNat IntKind.u32.bits))) ^^^ BitVec.ofInt IntKind.u32.bits (aQ.getD z4.toNat 0)).toNat:Int)) fun z5 =>
   tI F a0 n z5 (IntKind.i64.wrap (v2+(1:Int)))
  else
   some v1
/-- printworks/filter.Sum -/
def zF (F:Nat) (a0:List UInt8):Option Int :=
 call (tI F a0 F (4294967295:Int) (0:Int))
  fun v3 =>
 dE (IntKind.u32.wrap (((BitVec.ofInt IntKind.u32.bits (4294967295)) ^^^ (BitVec.ofInt IntKind.u32.bits v3)).toNat:Int)) fun z6 =>
 some z6
def tF (F:Nat) (a0:Int):Nat→(List UInt8)→Int→Option ((List UInt8))
 | 0,_,_=>none
 | n+1,v1,v2 =>
  bif (decide (v2 < (8:Int))) then
   chk (0≤(IntKind.i64.wrap ((28:Int) - (IntKind.i64.wrap ((4:Int) * v2))))) <|
   dE ((a0.fdiv (2 ^ (min (IntKind.i64.wrap ((28:Int) - (IntKind.i64.wrap ((4:Int) * v2)))).toNat IntKind.u32.bits)))) fun z1 =>
   dE (IntKind.u32.wrap ((BitVec.ofInt IntKind.u32.bits z1 &&& BitVec.ofInt IntKind.u32.bits (15:Int)).toNat:Int)) fun z2 =>
   chk (0≤z2∧z2 < ([48,49,50,51,52,53,54,55,56,57,97,98,99,100,101,102]:List UInt8).length) <|
   dE (((([48,49,50,51,52,53,54,55,56,57,97,98,99,100,101,102]:List UInt8).getD z2.toNat 0).toNat:Int)) fun z3 =>
   chk ((0≤v2∧v2 < 8)∧v2 < v1.length) <|
   chk (0≤z3∧z3 < 256) <|
   tF F a0 n (v1.set v2.toNat (UInt8.ofNat z3.toNat)) (IntKind.i64.wrap (v2+(1:Int)))
  else
   some v1
/-- printworks/filter.Hex -/
def yS (F:Nat) (a0:Int):Option ((List UInt8)) :=
 call (tF F a0 F (List.replicate 8 0) (0:Int))
  fun v3 =>
 chk ((0≤(0:Int)∧(0:Int)≤((8:Nat):Int)∧((8:Nat):Int)≤((8:Nat):Int))∧v3.length=8) <|
 some ((v3.drop (0:Int).toNat).take (((8:Nat):Int).toNat - (0:Int).toNat))
/-- (*strings.Builder).Len -/
def dX (F:Nat) (c0:List UInt8) (c1:Int) (c2:Int) (c3:Int) (c4:List aJ):Option (Int×(List UInt8)×Int×Int×Int×(List aJ)) :=
 some ((c0.length:Int),c0,c1,c2,c3,c4)
/-- (*strings.Builder).WriteString -/
def eO (F:Nat) (a0:List UInt8) (c1:List UInt8) (c2:Int) (c3:Int) (c4:Int) (c5:List aJ):Option (Int×Unit×(List UInt8)×Int×Int×Int×(List aJ)) :=
 chk (c1.length+a0.length≤4294967296) <|
 some ((a0.length:Int),(),(c1++a0),c2,c3,c4,c5)
/-- (*printworks/pagefile.writer).record -/
def kY (F:Nat) (a0:aJ) (c1:List UInt8) (c2:Int) (c3:Int) (c4:Int) (c5:List aJ):Option (Int×(List UInt8)×Int×Int×Int×(List aJ)) :=
 call (dX F c1 c2 c3 c4 c5) fun y1 =>
 call (mK F a0.f1) fun y2 =>
 call (tU F) fun y3 =>
 call (xN F y3 a0.f2) fun y4 =>
 chk (y2.1.length+([10]:List UInt8).length≤9223372036854775807) <|
 chk ((y2.1++([10]:List UInt8)).length+y4.1.length≤9223372036854775807) <|
 call (mB F ([111,98,106]:List UInt8) ([a0.f0,c2,y1.1,(((y2.1++([10]:List UInt8))++y4.1).length:Int)])) fun y5 =>
 chk (([126]:List UInt8).length+y5.length≤9223372036854775807) <|
 chk ((([126]:List UInt8)++y5).length+([32]:List UInt8).length≤9223372036854775807) <|
 chk (y5.length+([10]:List UInt8).length≤9223372036854775807) <|
 chk ((y5++([10]:List UInt8)).length+((y2.1++([10]:List UInt8))++y4.1).length≤9223372036854775807) <|
 call (zF F ((y5++([10]:List UInt8))++((y2.1++([10]:List UInt8))++y4.1))) fun y6 =>
 call (yS F y6) fun y7 =>
 chk (((([126]:List UInt8)++y5)++([32]:List UInt8)).length+y7.length≤9223372036854775807) <|
 chk ((((([126]:List UInt8)++y5)++([32]:List UInt8))++y7).length+([10]:List UInt8).length≤9223372036854775807) <|
 chk (((((([126]:List UInt8)++y5)++([32]:List UInt8))++y7)++([10]:List UInt8)).length+((y2.1++([10]:List UInt8))++y4.1).length≤9223372036854775807) <|
 dE ((((((([126]:List UInt8)++y5)++([32]:List UInt8))++y7)++([10]:List UInt8))++((y2.1++([10]:List UInt8))++y4.1))) fun z1 =>
 chk (z1.length+([10]:List UInt8).length≤9223372036854775807) <|
 call (eO F (z1++([10]:List UInt8)) c1 c2 c3 c4 c5) fun y8 =>
 some (y1.1,y8.2.2.1,y8.2.2.2.1,y8.2.2.2.2.1,y8.2.2.2.2.2.1,y8.2.2.2.2.2.2)
def gI (F:Nat) (a0:bC) (c5:List aJ):Nat→(List aT)→Int→Option ((List aT))
 | 0,_,_=>none
 | n+1,v1,v2 =>
  bif (decide (v2 < (c5.length:Int))) then
   call (chk (0≤v2∧v2 < c5.length) <|
    call (gW F a0 ((c5.getD v2.toNat (aJ.mk 0 (aC.mk 0 0 [] [] []) [])).f0)) fun y1 =>
    bif (!y1.2) then
     chk (v1.length+([(aT.mk ((c5.getD v2.toNat (aJ.mk 0 (aC.mk 0 0 [] [] []) [])).f0) (0:Int))]).length≤4294967296) <|
     dE ((v1++([(aT.mk ((c5.getD v2.toNat (aJ.mk 0 (aC.mk 0 0 [] [] []) [])).f0) (0:Int))]))) fun l1 =>
     some l1
    else
     some v1)
    fun v3 =>
   gI F a0 c5 n v3 (IntKind.i64.wrap (v2+(1:Int)))
  else
   some v1
def eZ (F:Nat) (a0:bC):Nat→(List aT)→Int→(List UInt8)→Int→Int→Int→(List aJ)→Option ((List aT)×(List UInt8)×Int×Int×Int×(List aJ))
 | 0,_,_,_,_,_,_,_=>none
 | n+1,v4,v5,v6,v7,v8,v9,v10 =>
  bif (decide (v5 < (a0.f1.length:Int))) then
   call (chk (0≤v5∧v5 < a0.f1.length) <|
    call (gW F (bC.mk v9 v10) ((a0.f1.getD v5.toNat (aJ.mk 0 (aC.mk 0 0 [] [] []) [])).f0)) fun y2 =>
    chk ((((!y2.2) == false) && true)=true→0≤y2.1∧y2.1 < v10.length) <|
    call ((bif (((!y2.2) == false) && true) then sW F (v10.getD y2.1.toNat (aJ.mk 0 (aC.mk 0 0 [] [] []) [])) (a0.f1.getD v5.toNat (aJ.mk 0 (aC.mk 0 0 [] [] []) [])) else some false)) fun y3 =>
    bif (bif (!y2.2) then true else (!y3)) then
     call (kY F (a0.f1.getD v5.toNat (aJ.mk 0 (aC.mk 0 0 [] [] []) [])) v6 v7 v8 v9 v10) fun y4 =>
     chk (v4.length+([(aT.mk ((a0.f1.getD v5.toNat (aJ.mk 0 (aC.mk 0 0 [] [] []) [])).f0) y4.1)]).length≤4294967296) <|
     dE ((v4++([(aT.mk ((a0.f1.getD v5.toNat (aJ.mk 0 (aC.mk 0 0 [] [] []) [])).f0) y4.1)]))) fun l2 =>
     some (l2,y4.2.1,y4.2.2.1,y4.2.2.2.1,y4.2.2.2.2.1,y4.2.2.2.2.2)
    else
     some (v4,v6,v7,v8,v9,v10))
    fun (v11,v12,v13,v14,v15,v16) =>
   eZ F a0 n v11 (IntKind.i64.wrap (v5+(1:Int))) v12 v13 v14 v15 v16
  else
   some (v4,v6,v7,v8,v9,v10)
def gK (F:Nat) (v17:List aT):Nat→(List UInt8)→Int→Option ((List UInt8))
 | 0,_,_=>none
 | n+1,v18,v19 =>
  bif (decide (v19 < ((@id (List aT) v17).length:Int))) then
   chk (0≤v19∧v19 < (@id (List aT) v17).length) <|
   chk (-9223372036854775808≤(((@id (List aT) v17).getD v19.toNat (aT.mk 0 0)).f0)∧(((@id (List aT) v17).getD v19.toNat (aT.mk 0 0)).f0)≤9223372036854775807) <|
   call (mB F (Lib.itoa (((@id (List aT) v17).getD v19.toNat (aT.mk 0 0)).f0)) ([((@id (List aT) v17).getD v19.toNat (aT.mk 0 0)).f1])) fun y5 =>
   chk (y5.length+([10]:List UInt8).length≤9223372036854775807) <|
   chk (v18.length+(y5++([10]:List UInt8)).length≤9223372036854775807) <|
   gK F v17 n (v18++(y5++([10]:List UInt8))) (IntKind.i64.wrap (v19+(1:Int)))
  else
   some v18
/-- (*printworks/pagefile.writer).revise -/
def lD (F:Nat) (a0:bC) (c1:List UInt8) (c2:Int) (c3:Int) (c4:Int) (c5:List aJ):Option ((List UInt8)×Int×Int×Int×(List aJ)) :=
 call ((bif (((bif (decide (c2 > (0:Int))) then (c4 == a0.f0) else false) == true) && true) then lC F c5 a0.f1 else some false)) fun y6 =>
 bif (bif (bif (decide (c2 > (0:Int))) then (c4 == a0.f0) else false) then y6 else false) then
  some (c1,c2,c3,c4,c5)
 else
  call (gI F a0 c5 F [] (0:Int))
   fun v20 =>
  call (eZ F a0 F v20 (0:Int) c1 (IntKind.i64.wrap (c2+(1:Int))) c3 c4 c5)
   fun (v17,v21,v22,v23,v24,v25) =>
  chk (v17.length≤4294967296∧v17.length≤1) <|
  call (dX F v21 v22 v23 v24 v25) fun y7 =>
  call (mB F ([126,116,97,98,108,101]:List UInt8) ([v22,y7.1,((@id (List aT) v17).length:Int)])) fun y8 =>
  chk (y8.length+([10]:List UInt8).length≤9223372036854775807) <|
  call (gK F v17 F (y8++([10]:List UInt8)) (0:Int))
   fun v26 =>
  call (mB F ([101,110,100]:List UInt8) ([v22,y7.1,v23,a0.f0])) fun y9 =>
  call (eO F v26 v21 v22 v23 v24 v25) fun y10 =>
  call (dX F y10.2.2.1 y10.2.2.2.1 y10.2.2.2.2.1 y10.2.2.2.2.2.1 y10.2.2.2.2.2.2) fun y11 =>
  chk (([126]:List UInt8).length+y9.length≤9223372036854775807) <|
  chk ((([126]:List UInt8)++y9).length+([32]:List UInt8).length≤9223372036854775807) <|
  chk (v26.length+y9.length≤9223372036854775807) <|
  call (zF F (v26++y9)) fun y12 =>
  call (yS F y12) fun y13 =>
  chk (((([126]:List UInt8)++y9)++([32]:List UInt8)).length+y13.length≤9223372036854775807) <|
  chk ((((([126]:List UInt8)++y9)++([32]:List UInt8))++y13).length+([10]:List UInt8).length≤9223372036854775807) <|
  call (eO F ((((([126]:List UInt8)++y9)++([32]:List UInt8))++y13)++([10]:List UInt8)) y10.2.2.1 y10.2.2.2.1 y11.1 y10.2.2.2.2.2.1 y10.2.2.2.2.2.2) fun y14 =>
  some (y14.2.2.1,y14.2.2.2.1,y14.2.2.2.2.1,a0.f0,a0.f1)
def lJ (F:Nat) (a0:List bC):Nat→(List UInt8)→Int→Int→Int→(List aJ)→Int→Option ((List UInt8)×Int×Int×Int×(List aJ))
 | 0,_,_,_,_,_,_=>none
 | n+1,v1,v2,v3,v4,v5,v6 =>
  bif (decide (v6 < (a0.length:Int))) then
   chk (0≤v6∧v6 < a0.length) <|
   call (lD F (a0.getD v6.toNat (bC.mk 0 [])) v1 v2 v3 v4 v5) fun y1 =>
   lJ F a0 n y1.1 y1.2.1 y1.2.2.1 y1.2.2.2.1 y1.2.2.2.2 (IntKind.i64.wrap (v6+(1:Int)))
  else
   some (v1,v2,v3,v4,v5)
/-- printworks/pagefile.build -/
def rM (F:Nat) (a0:List bC):Option ((List UInt8)) :=
 call (jC F ([126,112,97,103,101,115,32,49,10]:List UInt8) [] 0 0 0 []) fun y2 =>
 call (lJ F a0 F y2.2.2.1 y2.2.2.2.1 y2.2.2.2.2.1 y2.2.2.2.2.2.1 y2.2.2.2.2.2.2 (0:Int))
  fun (v7,v8,v9,v10,v11) =>
 chk (v7.length≤9223372036854775807) <|
 some v7
/-- printworks/pagefile.Write -/
def vV (F:Nat) (a0:bC):Option ((List UInt8)×Int) :=
 call (kJ F a0) fun y1 =>
 bif (y1 != (0:Int)) then
  some ([],y1)
 else
  call (rM F ([a0])) fun y2 =>
  bif (decide ((y2.length:Int) > (65536:Int))) then
   some ([],(2:Int))
  else
   some (y2,(0:Int))
/-- internal/stringslite.Cut -/
def lT (F:Nat) (a0:List UInt8) (a1:List UInt8):Option ((List UInt8)×(List UInt8)×Bool) :=
 chk (a1.length=1) <|
 bif (decide ((Lib.indexByte a0 (a1.getD 0 0)) ≥ (0:Int))) then
  chk (0≤(0:Int)∧(0:Int)≤(Lib.indexByte a0 (a1.getD 0 0))∧(Lib.indexByte a0 (a1.getD 0 0))≤(a0.length:Int)) <|
  chk (0≤(IntKind.i64.wrap ((Lib.indexByte a0 (a1.getD 0 0))+(a1.length:Int)))∧(IntKind.i64.wrap ((Lib.indexByte a0 (a1.getD 0 0))+(a1.length:Int)))≤(a0.length:Int)∧(a0.length:Int)≤(a0.length:Int)) <|
  dE (((a0.drop (IntKind.i64.wrap ((Lib.indexByte a0 (a1.getD 0 0))+(a1.length:Int))).toNat).take ((a0.length:Int).toNat - (IntKind.i64.wrap ((Lib.indexByte a0 (a1.getD 0 0))+(a1.length:Int))).toNat))) fun z1 =>
  some (((a0.drop (0:Int).toNat).take ((Lib.indexByte a0 (a1.getD 0 0)).toNat - (0:Int).toNat)),z1,true)
 else
  some (a0,[],false)
/-- strings.Cut -/
def strings_Cut (F:Nat) (a0:List UInt8) (a1:List UInt8):Option ((List UInt8)×(List UInt8)×Bool) :=
 call (lT F a0 a1) fun y1 =>
 some (y1.1,y1.2.1,y1.2.2)
/-- (*printworks/pagefile.reader).line -/
def fO (F:Nat) (c0:List UInt8) (c1:Int) (c2:List aJ):Option ((List UInt8)×(List UInt8)×Int×(List aJ)) :=
 call (strings_Cut F c0 ([10]:List UInt8)) fun y1 =>
 bif (!y1.2.2) then
  none
 else
  some (y1.1,y1.2.1,c1,c2)
/-- slices.Clone[[]printworks/api.PageItem,printworks/api.PageItem] -/
def iV (F:Nat) (a0:List aJ):Option ((List aJ)) :=
 chk (([]:List aJ).length+a0.length≤4294967296) <|
 some (([]:List aJ)++a0)
def lW (F:Nat) (a1:List UInt8) (a2:Int) (z1:Int):Nat→(List UInt8)→(List (List UInt8))→Int→Option ((List UInt8)×(List (List UInt8))×Int)
 | 0,_,_,_=>none
 | n+1,v1,v2,v3 =>
  bif (decide (v3 < (IntKind.i64.wrap (z1 - (1:Int))))) then
   chk (a1.length=1) <|
   bif (decide ((Lib.indexByte v1 (a1.getD 0 0)) < (0:Int))) then
    some (v1,v2,v3)
   else
    chk (0≤(0:Int)∧(0:Int)≤(IntKind.i64.wrap ((Lib.indexByte v1 (a1.getD 0 0))+a2))∧(IntKind.i64.wrap ((Lib.indexByte v1 (a1.getD 0 0))+a2))≤(v1.length:Int)) <|
    dE (((v1.drop (0:Int).toNat).take ((IntKind.i64.wrap ((Lib.indexByte v1 (a1.getD 0 0))+a2)).toNat - (0:Int).toNat))) fun z2 =>
    chk (0≤v3∧v3 < v2.length) <|
    chk (0≤(IntKind.i64.wrap ((Lib.indexByte v1 (a1.getD 0 0))+(a1.length:Int)))∧(IntKind.i64.wrap ((Lib.indexByte v1 (a1.getD 0 0))+(a1.length:Int)))≤(v1.length:Int)∧(v1.length:Int)≤(v1.length:Int)) <|
    dE (((v1.drop (IntKind.i64.wrap ((Lib.indexByte v1 (a1.getD 0 0))+(a1.length:Int))).toNat).take ((v1.length:Int).toNat - (IntKind.i64.wrap ((Lib.indexByte v1 (a1.getD 0 0))+(a1.length:Int))).toNat))) fun z3 =>
    lW F a1 a2 z1 n z3 (v2.set v3.toNat z2) (IntKind.i64.wrap (v3+(1:Int)))
  else
   some (v1,v2,v3)
/-- strings.genSplit -/
def strings_genSplit (F:Nat) (a0:List UInt8) (a1:List UInt8) (a2:Int) (a3:Int):Option ((List (List UInt8))) :=
 bif (a3 == (0:Int)) then
  some []
 else
  bif (a1 == []) then
   none
  else
   call (bif (decide (a3 < (0:Int))) then
     chk (a1.length=1) <|
     some (IntKind.i64.wrap ((Lib.countByte a0 (a1.getD 0 0))+(1:Int)))
    else
     some a3)
    fun v4 =>
   dE ((if (IntKind.i64.wrap ((a0.length:Int)+(1:Int))) < v4 then (IntKind.i64.wrap ((a0.length:Int)+(1:Int))) else v4)) fun z1 =>
   chk (0≤z1∧z1≤z1∧z1≤9223372036854775807∧((16:Nat):Int) * z1≤281474976710656) <|
   call (lW F a1 a2 z1 F a0 (List.replicate z1.toNat []) (0:Int))
    fun (v5,v6,v7) =>
   chk (0≤v7∧v7 < v6.length) <|
   chk (0≤(IntKind.i64.wrap (v7+(1:Int)))∧(IntKind.i64.wrap (v7+(1:Int)))≤((v6.set v7.toNat v5).length:Int)) <|
   some ((v6.set v7.toNat v5).take (IntKind.i64.wrap (v7+(1:Int))).toNat)
/-- strings.Split -/
def strings_Split (F:Nat) (a0:List UInt8) (a1:List UInt8):Option ((List (List UInt8))) :=
 call (strings_genSplit F a0 a1 (0:Int) (-1:Int)) fun y1 =>
 some y1
/-- printworks/pagefile.number -/
def lG (F:Nat) (a0:List UInt8):Option Int :=
 chk (a0.length≤9223372036854775806) <|
 call (bG8 a0) fun y1 =>
 bif false then
  none
 else
  some y1
def lQ (F:Nat) (c0:List UInt8):Nat→Bool→Int→Option (Out Int ((List UInt8)×Int))
 | 0,_,_=>none
 | n+1,v1,v2 =>
  bif (decide (v2 < (c0.length:Int))) then
   dO (chk (0≤v2∧v2 < c0.length) <|
    bif v1 then
     some (.go (((c0.getD v2.toNat 0).toNat:Int) != (10:Int)))
    else
     bif (((c0.getD v2.toNat 0).toNat:Int) == (37:Int)) then
      some (.go true)
     else
      call (qP F ((c0.getD v2.toNat 0).toNat:Int)) fun y1 =>
      bif (!y1) then
       some (.esc (c0,v2))
      else
       some (.go v1))
    (fun e=>some (.esc e)) fun v3 =>
   lQ F c0 n v3 (IntKind.i64.wrap (v2+(1:Int)))
  else
   some (.go v2)
/-- (*printworks/token.cursor).skip -/
def rJ (F:Nat) (c0:List UInt8) (c1:Int):Option ((List UInt8)×Int) :=
 dO (lQ F c0 F false c1)
  (fun e=>some e) fun v4 =>
 some (c0,v4)
def lV (F:Nat) (c0:List UInt8):Nat→Int→Option Int
 | 0,_=>none
 | n+1,v1 =>
  chk ((((decide (v1 < (c0.length:Int))) == true) && true)=true→0≤v1∧v1 < c0.length) <|
  call ((bif (((decide (v1 < (c0.length:Int))) == true) && true) then jH F ((c0.getD v1.toNat 0).toNat:Int) else some false)) fun y1 =>
  bif (bif (decide (v1 < (c0.length:Int))) then y1 else false) then
   lV F c0 n (IntKind.i64.wrap (v1+(1:Int)))
  else
   some v1
/-- (*printworks/token.cursor).run -/
def kF (F:Nat) (c0:List UInt8) (c1:Int):Option ((List UInt8)×(List UInt8)×Int) :=
 call (lV F c0 F c1)
  fun v2 =>
 chk (0≤c1∧c1≤v2∧v2≤(c0.length:Int)) <|
 some (((c0.drop c1.toNat).take (v2.toNat - c1.toNat)),c0,v2)
/-- printworks/token.integer$1 -/
def sJ (F:Nat) (a0:Int):Option Bool :=
 some (bif (decide (a0 < (48:Int))) then true else (decide (a0 > (57:Int))))
/-- printworks/token.integer -/
def xC (F:Nat) (a0:List UInt8):Option (Int×Int) :=
 call (chk (0≤(0:Int)∧(0:Int) < a0.length) <|
  chk ((((((a0.getD (0:Int).toNat 0).toNat:Int) == (43:Int)) == false) && true)=true→0≤(0:Int)∧(0:Int) < a0.length) <|
  dE ((bif (((a0.getD (0:Int).toNat 0).toNat:Int) == (43:Int)) then true else (((a0.getD (0:Int).toNat 0).toNat:Int) == (45:Int)))) fun z1 =>
  bif z1 then
   chk (0≤(1:Int)∧(1:Int)≤(a0.length:Int)∧(a0.length:Int)≤(a0.length:Int)) <|
   some ((a0.drop (1:Int).toNat).take ((a0.length:Int).toNat - (1:Int).toNat))
  else
   some a0)
  fun v1 =>
 call ((bif (((bif (v1 == []) then true else (decide ((v1.length:Int) > (10:Int)))) == false) && true) then aQ7 (fun x=>sJ F x) v1 else some false)) fun y1 =>
 bif (bif (bif (v1 == []) then true else (decide ((v1.length:Int) > (10:Int)))) then true else y1) then
  some ((0:Int),(5:Int))
 else
  chk (a0.length≤9223372036854775806) <|
  call (bG8 a0) fun y2 =>
  bif (bif (decide (y2 < (-2147483647:Int))) then true else (decide (y2 > (2147483647:Int)))) then
   some ((0:Int),(3:Int))
  else
   some (y2,(0:Int))
/-- printworks/token.hexDigit -/
def nO (F:Nat) (a0:Int):Option (Int×Bool) :=
 call (mG F a0) fun y1 =>
 bif y1 then
  some (IntKind.u8.wrap (a0 - (48:Int)),true)
 else
  bif (bif (decide ((97:Int)≤a0)) then (decide (a0≤(102:Int))) else false) then
   some (IntKind.u8.wrap ((IntKind.u8.wrap (a0 - (97:Int)))+(10:Int)),true)
  else
   bif (bif (decide ((65:Int)≤a0)) then (decide (a0≤(70:Int))) else false) then
    some (IntKind.u8.wrap ((IntKind.u8.wrap (a0 - (65:Int)))+(10:Int)),true)
   else
    some ((0:Int),false)
/-- (*printworks/token.cursor).pair -/
def nE (F:Nat) (c0:List UInt8) (c1:Int):Option (Int×Bool×(List UInt8)×Int) :=
 bif (decide ((IntKind.i64.wrap (c1+(2:Int))) > (c0.length:Int))) then
  some ((0:Int),false,c0,c1)
 else
  chk (0≤c1∧c1 < c0.length) <|
  call (nO F ((c0.getD c1.toNat 0).toNat:Int)) fun y1 =>
  chk (0≤(IntKind.i64.wrap (c1+(1:Int)))∧(IntKind.i64.wrap (c1+(1:Int))) < c0.length) <|
  call (nO F ((c0.getD (IntKind.i64.wrap (c1+(1:Int))).toNat 0).toNat:Int)) fun y2 =>
  dE (IntKind.u8.wrap ((BitVec.ofInt IntKind.u8.bits (IntKind.u8.wrap (y1.1 * 2 ^ (min (4:Int).toNat IntKind.u8.bits))) ||| BitVec.ofInt IntKind.u8.bits y2.1).toNat:Int)) fun z1 =>
  some (z1,(bif y1.2 then y2.2 else false),c0,IntKind.i64.wrap (c1+(2:Int)))
def jM (F:Nat) (y1:(List UInt8)×(List UInt8)×Int):Nat→(List UInt8)→Int→(List UInt8)→Option (Out ((List UInt8)) ((List UInt8)×Int×(List UInt8)×Int))
 | 0,_,_,_=>none
 | n+1,v1,v2,v3 =>
  bif (decide (v2 < (v1.length:Int))) then
   chk (0≤v2∧v2 < v1.length) <|
   bif (((v1.getD v2.toNat 0).toNat:Int) == (35:Int)) then
    call (nE F v1 (IntKind.i64.wrap (v2+(1:Int)))) fun y2 =>
    bif (bif (!y2.2.1) then true else (y2.1 == (0:Int))) then
     some (.esc ([],(5:Int),y1.2.1,y1.2.2))
    else
     call (aY F y2.1 v3) fun y3 =>
     jM F y1 n y2.2.2.1 y2.2.2.2 y3.2
   else
    dE ((bif (decide (((v1.getD v2.toNat 0).toNat:Int) < (33:Int))) then true else (decide (((v1.getD v2.toNat 0).toNat:Int) > (126:Int))))) fun z1 =>
    bif z1 then
     some (.esc ([],(5:Int),y1.2.1,y1.2.2))
    else
     call (aY F ((v1.getD v2.toNat 0).toNat:Int) v3) fun y4 =>
     jM F y1 n v1 (IntKind.i64.wrap (v2+(1:Int))) y4.2
  else
   some (.go v3)
/-- (*printworks/token.cursor).name -/
def rP (F:Nat) (c0:List UInt8) (c1:Int):Option ((List UInt8)×Int×(List UInt8)×Int) :=
 call (kF F c0 c1) fun y1 =>
 dO (jM F y1 F y1.1 0 [])
  (fun e=>some e) fun v4 =>
 call (dU F v4) fun y5 =>
 bif (y5.1 == (0:Int)) then
  some ([],(5:Int),y1.2.1,y1.2.2)
 else
  chk (v4.length≤9223372036854775807) <|
  call (lS F v4 (31:Int)) fun y6 =>
  some (y6.1,y6.2,y1.2.1,y1.2.2)
/-- printworks/token.reference$1 -/
def pX (F:Nat) (a0:Int):Option Bool :=
 some (bif (decide (a0 < (48:Int))) then true else (decide (a0 > (57:Int))))
/-- printworks/token.reference -/
def uV (F:Nat) (a0:List UInt8):Option (Int×Int) :=
 chk ((((bif (a0 == []) then true else (decide ((a0.length:Int) > (3:Int)))) == false) && true)=true→0≤(0:Int)∧(0:Int) < a0.length) <|
 dE ((bif (((a0.getD (0:Int).toNat 0).toNat:Int) == (48:Int)) then (decide ((a0.length:Int) > (1:Int))) else false)) fun z1 =>
 call ((bif (((bif (bif (a0 == []) then true else (decide ((a0.length:Int) > (3:Int)))) then true else z1) == false) && true) then aQ7 (fun x=>pX F x) a0 else some false)) fun y1 =>
 dE ((bif (bif (bif (a0 == []) then true else (decide ((a0.length:Int) > (3:Int)))) then true else z1) then true else y1)) fun z2 =>
 bif z2 then
  some ((0:Int),(5:Int))
 else
  chk (a0.length≤9223372036854775806) <|
  call (bG8 a0) fun y2 =>
  bif (bif (decide (y2 < (1:Int))) then true else (decide (y2 > (255:Int)))) then
   some ((0:Int),(3:Int))
  else
   some (y2,(0:Int))
/-- (*printworks/token.cursor).escape -/
def oP (F:Nat) (c0:List UInt8) (c1:Int) (c2:List UInt8):Option (Int×(List UInt8)×Int×(List UInt8)) :=
 bif (c1 == (c0.length:Int)) then
  some ((12:Int),c0,c1,c2)
 else
  chk (0≤c1∧c1 < c0.length) <|
  dO (bif (((c0.getD c1.toNat 0).toNat:Int) == (10:Int)) then
    some (.esc ((0:Int),c0,IntKind.i64.wrap (c1+(1:Int)),c2))
   else
    bif (((c0.getD c1.toNat 0).toNat:Int) == (110:Int)) then
     some (.go ((10:Int),c0,IntKind.i64.wrap (c1+(1:Int))))
    else
     bif (((c0.getD c1.toNat 0).toNat:Int) == (116:Int)) then
      some (.go ((9:Int),c0,IntKind.i64.wrap (c1+(1:Int))))
     else
      call (bif (((c0.getD c1.toNat 0).toNat:Int) == (92:Int)) then
        some (((c0.getD c1.toNat 0).toNat:Int) == (92:Int))
       else
        bif (((c0.getD c1.toNat 0).toNat:Int) == (40:Int)) then
         some (((c0.getD c1.toNat 0).toNat:Int) == (40:Int))
        else
         some (((c0.getD c1.toNat 0).toNat:Int) == (41:Int)))
       fun v1 =>
      bif v1 then
       some (.go (((c0.getD c1.toNat 0).toNat:Int),c0,IntKind.i64.wrap (c1+(1:Int))))
      else
       bif (((c0.getD c1.toNat 0).toNat:Int) == (120:Int)) then
        call (nE F c0 (IntKind.i64.wrap (c1+(1:Int)))) fun y1 =>
        bif (!y1.2.1) then
         some (.esc ((5:Int),y1.2.2.1,y1.2.2.2,c2))
        else
         some (.go (y1.1,y1.2.2.1,y1.2.2.2))
       else
        some (.esc ((5:Int),c0,IntKind.i64.wrap (c1+(1:Int)),c2)))
   (fun e=>some e) fun (v2,v3,v4) =>
  call (aY F v2 c2) fun y2 =>
  some ((0:Int),v3,v4,y2.2)
def gQ (F:Nat)  : Nat→(List UInt8)→(List UInt8)→Int→Int→Option (Out ((List UInt8)×Int) ((List UInt8)×Int×(List UInt8)×Int))
 | 0,_,_,_,_=>none
 | n+1,v1,v2,v3,v4 =>
  bif (decide (v3 < (v2.length:Int))) then
   chk (0≤v3∧v3 < v2.length) <|
   dO (bif (((v2.getD v3.toNat 0).toNat:Int) == (92:Int)) then
     call (oP F v2 (IntKind.i64.wrap (v3+(1:Int))) v1) fun y1 =>
     bif (y1.1 != (0:Int)) then
      some (.esc (.inr ([],y1.1,y1.2.1,y1.2.2.1)))
     else
      some (.esc (.inl (y1.2.2.2,y1.2.1,y1.2.2.1,v4)))
    else
     bif (((v2.getD v3.toNat 0).toNat:Int) == (40:Int)) then
      bif (decide ((IntKind.i64.wrap (v4+(1:Int))) > (16:Int))) then
       some (.esc (.inr ([],(15:Int),v2,IntKind.i64.wrap (v3+(1:Int)))))
      else
       some (.go (IntKind.i64.wrap (v4+(1:Int))))
     else
      bif (((v2.getD v3.toNat 0).toNat:Int) == (41:Int)) then
       some (.go (IntKind.i64.wrap (v4 - (1:Int))))
      else
       some (.go v4))
    (Sum.elim (fun e=>gQ F n e.1 e.2.1 e.2.2.1 e.2.2.2) (fun e=>some (.esc e))) fun v5 =>
   bif (v5 == (0:Int)) then
    chk (v1.length≤9223372036854775807) <|
    call (lS F v1 (1024:Int)) fun y2 =>
    some (.esc (y2.1,y2.2,v2,IntKind.i64.wrap (v3+(1:Int))))
   else
    call (aY F ((v2.getD v3.toNat 0).toNat:Int) v1) fun y3 =>
    gQ F n y3.2 v2 (IntKind.i64.wrap (v3+(1:Int))) v5
  else
   some (.go (v2,v3))
/-- (*printworks/token.cursor).text -/
def rG (F:Nat) (c0:List UInt8) (c1:Int):Option ((List UInt8)×Int×(List UInt8)×Int) :=
 dO (gQ F F [] c0 c1 (1:Int))
  (fun e=>some e) fun (v6,v7) =>
 some ([],(12:Int),v6,v7)
def iJ (F:Nat) (c0:List UInt8):Nat→Int→(List UInt8)→Int→Int→Option (Out Int ((List UInt8)×Int×(List UInt8)×Int))
 | 0,_,_,_,_=>none
 | n+1,v1,v2,v3,v4 =>
  bif (decide (v1 < (c0.length:Int))) then
   chk (0≤v1∧v1 < c0.length) <|
   call (qP F ((c0.getD v1.toNat 0).toNat:Int)) fun y1 =>
   bif y1 then
    iJ F c0 n (IntKind.i64.wrap (v1+(1:Int))) v2 v3 v4
   else
    dE ((bif (((c0.getD v1.toNat 0).toNat:Int) == (62:Int)) then ((v4.tmod (2:Int)) == (0:Int)) else false)) fun z1 =>
    bif z1 then
     chk (v2.length≤9223372036854775807) <|
     call (lS F v2 (1024:Int)) fun y2 =>
     some (.esc (y2.1,y2.2,c0,IntKind.i64.wrap (v1+(1:Int))))
    else
     call (nO F ((c0.getD v1.toNat 0).toNat:Int)) fun y3 =>
     bif (!y3.2) then
      some (.esc ([],(5:Int),c0,IntKind.i64.wrap (v1+(1:Int))))
     else
      call (bif (((IntKind.i64.wrap (v4+(1:Int))).tmod (2:Int)) == (0:Int)) then
        dE (IntKind.u8.wrap ((BitVec.ofInt IntKind.u8.bits (IntKind.u8.wrap (v3 * 2 ^ (min (4:Int).toNat IntKind.u8.bits))) ||| BitVec.ofInt IntKind.u8.bits y3.1).toNat:Int)) fun z2 =>
        call (aY F z2 v2) fun y4 =>
        some y4.2
       else
        some v2)
       fun v5 =>
      iJ F c0 n (IntKind.i64.wrap (v1+(1:Int))) v5 y3.1 (IntKind.i64.wrap (v4+(1:Int)))
  else
   some (.go v1)
/-- (*printworks/token.cursor).hex -/
def sQ (F:Nat) (c0:List UInt8) (c1:Int):Option ((List UInt8)×Int×(List UInt8)×Int) :=
 dO (iJ F c0 F c1 [] (0:Int) (0:Int))
  (fun e=>some e) fun v6 =>
 some ([],(12:Int),c0,v6)
/-- (*printworks/token.cursor).one -/
def sP (F:Nat) (c0:List UInt8) (c1:Int):Option (aM×Int×(List UInt8)×Int) :=
 chk (0≤c1∧c1 < c0.length) <|
 dE ((bif (((c0.getD c1.toNat 0).toNat:Int) == (43:Int)) then true else (((c0.getD c1.toNat 0).toNat:Int) == (45:Int)))) fun z1 =>
 call ((bif ((z1 == false) && true) then mG F ((c0.getD c1.toNat 0).toNat:Int) else some false)) fun y1 =>
 bif (bif z1 then true else y1) then
  call (kF F c0 c1) fun y2 =>
  call (xC F y2.1) fun y3 =>
  some ((aM.mk (1:Int) y3.1 [] 0 0),y3.2,y2.2.1,y2.2.2)
 else
  call (jH F ((c0.getD c1.toNat 0).toNat:Int)) fun y4 =>
  bif y4 then
   call (kF F c0 c1) fun y5 =>
   call (sB F y5.1) fun y6 =>
   some ((aM.mk (5:Int) 0 y6.1 0 0),y6.2,y5.2.1,y5.2.2)
  else
   chk ((((decide ((IntKind.i64.wrap (c1+(1:Int))) < (c0.length:Int))) == true) && true)=true→0≤(IntKind.i64.wrap (c1+(1:Int)))∧(IntKind.i64.wrap (c1+(1:Int))) < c0.length) <|
   dE ((((c0.getD (IntKind.i64.wrap (c1+(1:Int))).toNat 0).toNat:Int) == ((c0.getD c1.toNat 0).toNat:Int))) fun z2 =>
   dO (bif (((c0.getD c1.toNat 0).toNat:Int) == (47:Int)) then
     call (rP F c0 (IntKind.i64.wrap (c1+(1:Int)))) fun y7 =>
     some (.go ((2:Int),0,y7.1,y7.2.1,y7.2.2.1,y7.2.2.2))
    else
     bif (((c0.getD c1.toNat 0).toNat:Int) == (64:Int)) then
      call (kF F c0 (IntKind.i64.wrap (c1+(1:Int)))) fun y8 =>
      call (uV F y8.1) fun y9 =>
      some (.go ((4:Int),y9.1,[],y9.2,y8.2.1,y8.2.2))
     else
      bif (((c0.getD c1.toNat 0).toNat:Int) == (40:Int)) then
       call (rG F c0 (IntKind.i64.wrap (c1+(1:Int)))) fun y10 =>
       some (.go ((3:Int),0,y10.1,y10.2.1,y10.2.2.1,y10.2.2.2))
      else
       bif (((c0.getD c1.toNat 0).toNat:Int) == (91:Int)) then
        some (.go ((6:Int),0,[],(0:Int),c0,IntKind.i64.wrap (c1+(1:Int))))
       else
        bif (((c0.getD c1.toNat 0).toNat:Int) == (93:Int)) then
         some (.go ((7:Int),0,[],(0:Int),c0,IntKind.i64.wrap (c1+(1:Int))))
        else
         bif (((c0.getD c1.toNat 0).toNat:Int) == (60:Int)) then
          bif (bif (decide ((IntKind.i64.wrap (c1+(1:Int))) < (c0.length:Int))) then z2 else false) then
           some (.go ((8:Int),0,[],(0:Int),c0,IntKind.i64.wrap ((IntKind.i64.wrap (c1+(1:Int)))+(1:Int))))
          else
           call (sQ F c0 (IntKind.i64.wrap (c1+(1:Int)))) fun y11 =>
           some (.go ((3:Int),0,y11.1,y11.2.1,y11.2.2.1,y11.2.2.2))
         else
          bif (((c0.getD c1.toNat 0).toNat:Int) == (62:Int)) then
           bif (!(bif (decide ((IntKind.i64.wrap (c1+(1:Int))) < (c0.length:Int))) then z2 else false)) then
            some (.esc ((aM.mk 0 0 [] 0 0),(5:Int),c0,IntKind.i64.wrap (c1+(1:Int))))
           else
            some (.go ((9:Int),0,[],(0:Int),c0,IntKind.i64.wrap ((IntKind.i64.wrap (c1+(1:Int)))+(1:Int))))
          else
           some (.esc ((aM.mk 0 0 [] 0 0),(5:Int),c0,IntKind.i64.wrap (c1+(1:Int)))))
    (fun e=>some e) fun (v1,v2,v3,v4,v5,v6) =>
   some ((aM.mk v1 v2 v3 0 0),v4,v5,v6)
/-- printworks/token.next -/
def aJ2 (F:Nat) (a0:List UInt8) (a1:Int):Option (aM×Int×Int) :=
 call (rJ F a0 a1) fun y1 =>
 bif (y1.2 == (a0.length:Int)) then
  some ((aM.mk 0 0 [] y1.2 y1.2),y1.2,(0:Int))
 else
  call (sP F y1.1 y1.2) fun y2 =>
  bif (y2.2.1 != (0:Int)) then
   some ((aM.mk 0 0 [] 0 0),y1.2,y2.2.1)
  else
   some ((aM.mk y2.1.f0 y2.1.f1 y2.1.f2 y1.2 y2.2.2.2),y1.2,(0:Int))
/-- printworks/token.Next -/
def aJ8 (F:Nat) (a0:List UInt8) (a1:Int):Option (aM×Int×Int) :=
 bif (decide ((a0.length:Int) > (8192:Int))) then
  some ((aM.mk 0 0 [] 0 0),(0:Int),(2:Int))
 else
  bif (bif (decide (a1 < (0:Int))) then true else (decide (a1 > (a0.length:Int)))) then
   some ((aM.mk 0 0 [] 0 0),(0:Int),(3:Int))
  else
   call (aJ2 F a0 a1) fun y1 =>
   call (bif (y1.2.2 == (0:Int)) then
     some (0:Int)
    else
     some y1.2.1)
    fun v1 =>
   some (y1.1,v1,y1.2.2)
/-- printworks/object.fail -/
def gT (F:Nat) (a0:Int) (a1:Int):Option Unit :=
 none
/-- (*printworks/object.parser).advance -/
def gF (F:Nat) (c0:List UInt8) (c1:Int) (c2:Int) (c3:List UInt8) (c4:Int) (c5:Int):Option ((List UInt8)×Int×Int×(List UInt8)×Int×Int) :=
 call (aJ8 F c0 c5) fun y1 =>
 call (bif (y1.2.2 != (0:Int)) then
   call (gT F y1.2.1 y1.2.2) fun y2 =>
   some ()
  else
   some ())
  fun _ =>
 some (c0,y1.1.f0,y1.1.f1,y1.1.f2,y1.1.f3,y1.1.f4)
/-- (*printworks/object.parser).more -/
def mU (F:Nat) (a0:Int) (a1:Int) (c2:List UInt8) (c3:Int) (c4:Int) (c5:List UInt8) (c6:Int) (c7:Int):Option (Bool×(List UInt8)×Int×Int×(List UInt8)×Int×Int) :=
 call (gF F c2 c3 c4 c5 c6 c7) fun y1 =>
 dO (bif (y1.2.1 == a0) then
   some (.esc (false,y1.1,y1.2.1,y1.2.2.1,y1.2.2.2.1,y1.2.2.2.2.1,y1.2.2.2.2.2))
  else
   bif (y1.2.1 == (0:Int)) then
    call (gT F y1.2.2.2.2.1 (12:Int)) fun y2 =>
    some (.go ())
   else
    bif (a1 == (256:Int)) then
     call (gT F y1.2.2.2.2.1 (2:Int)) fun y3 =>
     some (.go ())
    else
     some (.go ()))
  (fun e=>some e) fun _ =>
 some (true,y1.1,y1.2.1,y1.2.2.1,y1.2.2.2.1,y1.2.2.2.2.1,y1.2.2.2.2.2)
def jA (F:Nat) (a0:Int) (rec_object_parser_object:Int→(List UInt8)→Int→Int→(List UInt8)→Int→Int→Option (aC×(List UInt8)×Int×Int×(List UInt8)×Int×Int)):Nat→(List aC)→(List UInt8)→Int→Int→(List UInt8)→Int→Int→Option ((List aC)×(List UInt8)×Int×Int×(List UInt8)×Int×Int)
 | 0,_,_,_,_,_,_,_=>none
 | n+1,v1,v2,v3,v4,v5,v6,v7 =>
  call (mU F (7:Int) (v1.length:Int) v2 v3 v4 v5 v6 v7) fun y1 =>
  bif y1.1 then
   call (rec_object_parser_object (IntKind.i64.wrap (a0+(1:Int))) y1.2.1 y1.2.2.1 y1.2.2.2.1 y1.2.2.2.2.1 y1.2.2.2.2.2.1 y1.2.2.2.2.2.2) fun y2 =>
   chk (v1.length+([y2.1]).length≤4294967296) <|
   jA F a0 rec_object_parser_object n (v1++([y2.1])) y2.2.1 y2.2.2.1 y2.2.2.2.1 y2.2.2.2.2.1 y2.2.2.2.2.2.1 y2.2.2.2.2.2.2
  else
   some (v1,y1.2.1,y1.2.2.1,y1.2.2.2.1,y1.2.2.2.2.1,y1.2.2.2.2.2.1,y1.2.2.2.2.2.2)
/-- (*printworks/object.parser).list -/
def qH (F:Nat) (rec_object_parser_object:Int→(List UInt8)→Int→Int→(List UInt8)→Int→Int→Option (aC×(List UInt8)×Int×Int×(List UInt8)×Int×Int)) (a0:Int) (c1:List UInt8) (c2:Int) (c3:Int) (c4:List UInt8) (c5:Int) (c6:Int):Option (aC×(List UInt8)×Int×Int×(List UInt8)×Int×Int) :=
 call (jA F a0 rec_object_parser_object F [] c1 c2 c3 c4 c5 c6)
  fun (v8,v9,v10,v11,v12,v13,v14) =>
 some ((aC.mk (6:Int) 0 [] [] v8),v9,v10,v11,v12,v13,v14)
def iU (F:Nat) (a0:Int) (rec_object_parser_object:Int→(List UInt8)→Int→Int→(List UInt8)→Int→Int→Option (aC×(List UInt8)×Int×Int×(List UInt8)×Int×Int)):Nat→(List (List UInt8))→(List aC)→(List UInt8)→Int→Int→(List UInt8)→Int→Int→Option ((List (List UInt8))×(List aC)×(List UInt8)×Int×Int×(List UInt8)×Int×Int)
 | 0,_,_,_,_,_,_,_,_=>none
 | n+1,v1,v2,v3,v4,v5,v6,v7,v8 =>
  call (mU F (9:Int) (v2.length:Int) v3 v4 v5 v6 v7 v8) fun y1 =>
  bif y1.1 then
   call (slices_BinarySearch_string F v1 y1.2.2.2.2.1) fun y2 =>
   call (bif (y1.2.2.1 != (2:Int)) then
     call (gT F y1.2.2.2.2.2.1 (5:Int)) fun y3 =>
     some ()
    else
     some ())
    fun _ =>
   call (bif y2.2 then
     call (gT F y1.2.2.2.2.2.1 (7:Int)) fun y4 =>
     some ()
    else
     some ())
    fun _ =>
   call (gF F y1.2.1 y1.2.2.1 y1.2.2.2.1 y1.2.2.2.2.1 y1.2.2.2.2.2.1 y1.2.2.2.2.2.2) fun y5 =>
   call (rec_object_parser_object (IntKind.i64.wrap (a0+(1:Int))) y5.1 y5.2.1 y5.2.2.1 y5.2.2.2.1 y5.2.2.2.2.1 y5.2.2.2.2.2) fun y6 =>
   chk (0≤y2.1∧y2.1≤(v1.length:Int)∧v1.length+1≤4294967296) <|
   chk (0≤y2.1∧y2.1≤(v2.length:Int)∧v2.length+1≤4294967296) <|
   iU F a0 rec_object_parser_object n (v1.take y2.1.toNat++([y1.2.2.2.2.1])++v1.drop y2.1.toNat) (v2.take y2.1.toNat++([y6.1])++v2.drop y2.1.toNat) y6.2.1 y6.2.2.1 y6.2.2.2.1 y6.2.2.2.2.1 y6.2.2.2.2.2.1 y6.2.2.2.2.2.2
  else
   some (v1,v2,y1.2.1,y1.2.2.1,y1.2.2.2.1,y1.2.2.2.2.1,y1.2.2.2.2.2.1,y1.2.2.2.2.2.2)
/-- (*printworks/object.parser).dict -/
def pY (F:Nat) (rec_object_parser_object:Int→(List UInt8)→Int→Int→(List UInt8)→Int→Int→Option (aC×(List UInt8)×Int×Int×(List UInt8)×Int×Int)) (a0:Int) (c1:List UInt8) (c2:Int) (c3:Int) (c4:List UInt8) (c5:Int) (c6:Int):Option (aC×(List UInt8)×Int×Int×(List UInt8)×Int×Int) :=
 call (iU F a0 rec_object_parser_object F [] [] c1 c2 c3 c4 c5 c6)
  fun (v9,v10,v11,v12,v13,v14,v15,v16) =>
 some ((aC.mk (7:Int) 0 [] v9 v10),v11,v12,v13,v14,v15,v16)
/-- (*printworks/object.parser).leaf -/
def pV (F:Nat) (c0:List UInt8) (c1:Int) (c2:Int) (c3:List UInt8) (c4:Int) (c5:Int):Option (aC×(List UInt8)×Int×Int×(List UInt8)×Int×Int) :=
 bif (c1 == (1:Int)) then
  some ((aC.mk (2:Int) c2 [] [] []),c0,c1,c2,c3,c4,c5)
 else
  bif (c1 == (2:Int)) then
   some ((aC.mk (3:Int) 0 c3 [] []),c0,c1,c2,c3,c4,c5)
  else
   bif (c1 == (3:Int)) then
    some ((aC.mk (4:Int) 0 c3 [] []),c0,c1,c2,c3,c4,c5)
   else
    bif (c1 == (4:Int)) then
     some ((aC.mk (5:Int) c2 [] [] []),c0,c1,c2,c3,c4,c5)
    else
     bif (c3 == ([110,117,108,108]:List UInt8)) then
      some ((aC.mk 0 0 [] [] []),c0,c1,c2,c3,c4,c5)
     else
      bif (c3 == ([116,114,117,101]:List UInt8)) then
       some ((aC.mk (1:Int) (1:Int) [] [] []),c0,c1,c2,c3,c4,c5)
      else
       bif (c3 == ([102,97,108,115,101]:List UInt8)) then
        some ((aC.mk (1:Int) 0 [] [] []),c0,c1,c2,c3,c4,c5)
       else
        call (gT F c4 (6:Int)) fun y1 =>
        some ((aC.mk 0 0 [] [] []),c0,c1,c2,c3,c4,c5)
/-- (*printworks/object.parser).object -/
def kZ (F:Nat) (rec_object_parser_object:Int→(List UInt8)→Int→Int→(List UInt8)→Int→Int→Option (aC×(List UInt8)×Int×Int×(List UInt8)×Int×Int)) (a0:Int) (c1:List UInt8) (c2:Int) (c3:Int) (c4:List UInt8) (c5:Int) (c6:Int):Option (aC×(List UInt8)×Int×Int×(List UInt8)×Int×Int) :=
 dO (bif (c2 == (0:Int)) then
   call (gT F c5 (12:Int)) fun y1 =>
   some (.go ())
  else
   bif (bif (c2 == (7:Int)) then true else (c2 == (9:Int))) then
    call (gT F c5 (5:Int)) fun y2 =>
    some (.go ())
   else
    bif (decide (a0 > (12:Int))) then
     call (gT F c5 (15:Int)) fun y3 =>
     some (.go ())
    else
     bif (c2 == (6:Int)) then
      call (qH F rec_object_parser_object a0 c1 c2 c3 c4 c5 c6) fun y4 =>
      some (.esc (y4.1,y4.2.1,y4.2.2.1,y4.2.2.2.1,y4.2.2.2.2.1,y4.2.2.2.2.2.1,y4.2.2.2.2.2.2))
     else
      bif (c2 == (8:Int)) then
       call (pY F rec_object_parser_object a0 c1 c2 c3 c4 c5 c6) fun y5 =>
       some (.esc (y5.1,y5.2.1,y5.2.2.1,y5.2.2.2.1,y5.2.2.2.2.1,y5.2.2.2.2.2.1,y5.2.2.2.2.2.2))
      else
       some (.go ()))
  (fun e=>some e) fun _ =>
 call (pV F c1 c2 c3 c4 c5 c6) fun y6 =>
 some (y6.1,y6.2.1,y6.2.2.1,y6.2.2.2.1,y6.2.2.2.2.1,y6.2.2.2.2.2.1,y6.2.2.2.2.2.2)
def kX (F:Nat):Nat→Int→(List UInt8)→Int→Int→(List UInt8)→Int→Int→Option (aC×(List UInt8)×Int×Int×(List UInt8)×Int×Int)
 | 0=>fun _ _ _ _ _ _ _=>none
 | n+1=>kZ F (kX F n)
def uG (F:Nat) (a0:Int) (c1:List UInt8) (c2:Int) (c3:Int) (c4:List UInt8) (c5:Int) (c6:Int):Option (aC×(List UInt8)×Int×Int×(List UInt8)×Int×Int):=kX F F a0 c1 c2 c3 c4 c5 c6
/-- printworks/object.Parse -/
def zP (F:Nat) (a0:List UInt8):Option (aC×Int×Int) :=
 call (gF F a0 0 0 [] 0 0) fun y1 =>
 call (uG F (1:Int) y1.1 y1.2.1 y1.2.2.1 y1.2.2.2.1 y1.2.2.2.2.1 y1.2.2.2.2.2) fun y2 =>
 call (gF F y2.2.1 y2.2.2.1 y2.2.2.2.1 y2.2.2.2.2.1 y2.2.2.2.2.2.1 y2.2.2.2.2.2.2) fun y3 =>
 call (bif (y3.2.1 != (0:Int)) then
   call (gT F y3.2.2.2.2.1 (5:Int)) fun y4 =>
   some ()
  else
   some ())
  fun _ =>
 call (call (mK F y2.1) fun y5 =>
  bif (y5.2 != (0:Int)) then
   call (gT F (0:Int) y5.2) fun y6 =>
   some ()
  else
   some ())
  fun _ =>
 some (y2.1,(0:Int),(0:Int))
def kU (F:Nat) (a1:List UInt8):Nat→(List UInt8)→Int→Option (Out ((List UInt8)) ((List UInt8)×Int))
 | 0,_,_=>none
 | n+1,v1,v2 =>
  bif (decide (v2 < (a1.length:Int))) then
   chk (0≤v2∧v2 < a1.length) <|
   dO (bif ((IntKind.i64.wrap ((a1.getD v2.toNat 0).toNat:Int)) == (128:Int)) then
     some (.esc ([],(5:Int)))
    else
     call (dE (IntKind.i64.wrap ((IntKind.i64.wrap (v2+(1:Int)))+(IntKind.i64.wrap ((a1.getD v2.toNat 0).toNat:Int)))) fun z1 =>
      dE ((bif (decide ((IntKind.i64.wrap ((a1.getD v2.toNat 0).toNat:Int)) < (128:Int))) then (decide ((IntKind.i64.wrap (z1+(1:Int))) > (a1.length:Int))) else false)) fun z2 =>
      bif z2 then
       some z2
      else
       some ((IntKind.i64.wrap (v2+(1:Int))) == (a1.length:Int)))
      fun v3 =>
     bif v3 then
      some (.esc ([],(12:Int)))
     else
      bif (decide ((IntKind.i64.wrap ((a1.getD v2.toNat 0).toNat:Int)) < (128:Int))) then
       dE (IntKind.i64.wrap ((IntKind.i64.wrap (v2+(1:Int)))+(IntKind.i64.wrap ((a1.getD v2.toNat 0).toNat:Int)))) fun z3 =>
       chk (0≤(IntKind.i64.wrap (v2+(1:Int)))∧(IntKind.i64.wrap (v2+(1:Int)))≤(IntKind.i64.wrap (z3+(1:Int)))∧(IntKind.i64.wrap (z3+(1:Int)))≤(a1.length:Int)) <|
       dE (((a1.drop (IntKind.i64.wrap (v2+(1:Int))).toNat).take ((IntKind.i64.wrap (z3+(1:Int))).toNat - (IntKind.i64.wrap (v2+(1:Int))).toNat))) fun z4 =>
       call (bS F z4 v1) fun y1 =>
       dE (IntKind.i64.wrap ((IntKind.i64.wrap (v2+(1:Int)))+(IntKind.i64.wrap ((IntKind.i64.wrap ((a1.getD v2.toNat 0).toNat:Int))+(1:Int))))) fun z5 =>
       some (.go (y1.2.2,z5))
      else
       chk (0≤(IntKind.i64.wrap (v2+(1:Int)))∧(IntKind.i64.wrap (v2+(1:Int)))≤(IntKind.i64.wrap ((IntKind.i64.wrap (v2+(1:Int)))+(1:Int)))∧(IntKind.i64.wrap ((IntKind.i64.wrap (v2+(1:Int)))+(1:Int)))≤(a1.length:Int)) <|
       dE (((a1.drop (IntKind.i64.wrap (v2+(1:Int))).toNat).take ((IntKind.i64.wrap ((IntKind.i64.wrap (v2+(1:Int)))+(1:Int))).toNat - (IntKind.i64.wrap (v2+(1:Int))).toNat))) fun z6 =>
       chk (0≤(IntKind.i64.wrap ((257:Int) - (IntKind.i64.wrap ((a1.getD v2.toNat 0).toNat:Int))))∧(IntKind.i64.wrap ((257:Int) - (IntKind.i64.wrap ((a1.getD v2.toNat 0).toNat:Int))))≤9223372036854775807∧z6.length * (IntKind.i64.wrap ((257:Int) - (IntKind.i64.wrap ((a1.getD v2.toNat 0).toNat:Int)))).toNat≤140737488355328) <|
       call (bS F (Lib.repeatL z6 (IntKind.i64.wrap ((257:Int) - (IntKind.i64.wrap ((a1.getD v2.toNat 0).toNat:Int)))).toNat) v1) fun y2 =>
       some (.go (y2.2.2,IntKind.i64.wrap ((IntKind.i64.wrap (v2+(1:Int)))+(1:Int)))))
    (fun e=>some (.esc e)) fun (v4,v5) =>
   call (dU F v4) fun y3 =>
   bif (decide (y3.1 > (65536:Int))) then
    some (.esc ([],(2:Int)))
   else
    kU F a1 n v4 v5
  else
   some (.go v1)
/-- (printworks/filter.runs).decode -/
def pU (F:Nat) (a0:dG) (a1:List UInt8):Option ((List UInt8)×Int) :=
 dO (kU F a1 F [] (0:Int))
  (fun e=>some e) fun v6 =>
 chk (v6.length≤9223372036854775807) <|
 some (v6,(0:Int))
def kS (F:Nat) (a0:jI):Nat→(List UInt8)→Int→Option ((List UInt8))
 | 0,_,_=>none
 | n+1,v1,v2 =>
  bif (decide (v2 < (v1.length:Int))) then
   chk (0≤v2∧v2 < v1.length) <|
   chk (0≤(IntKind.i64.wrap (v2 - a0.f0))∧(IntKind.i64.wrap (v2 - a0.f0)) < v1.length) <|
   dE (IntKind.u8.wrap (((v1.getD v2.toNat 0).toNat:Int)+((v1.getD (IntKind.i64.wrap (v2 - a0.f0)).toNat 0).toNat:Int))) fun z1 =>
   chk (0≤v2∧v2 < v1.length) <|
   chk (0≤z1∧z1 < 256) <|
   kS F a0 n (v1.set v2.toNat (UInt8.ofNat z1.toNat)) (IntKind.i64.wrap (v2+(1:Int)))
  else
   some v1
/-- (printworks/filter.rows).decode -/
def qF (F:Nat) (a0:jI) (a1:List UInt8):Option ((List UInt8)×Int) :=
 call (kS F a0 F a1 a0.f0)
  fun v3 =>
 some (v3,(0:Int))
def jQ (F:Nat) (a1:List UInt8) (v1:Int) (z1:Int):Nat→(List UInt8)→Int→Option ((List UInt8))
 | 0,_,_=>none
 | n+1,v2,v3 =>
  dE ((decide (v3 < (IntKind.i64.wrap ((IntKind.i64.wrap ((a1.getD v1.toNat 0).toNat:Int)) - (125:Int)))))) fun z2 =>
  bif z2 then
   chk (0≤(IntKind.i64.wrap ((v2.length:Int) - z1))∧(IntKind.i64.wrap ((v2.length:Int) - z1)) < v2.length) <|
   chk (0≤((v2.getD (IntKind.i64.wrap ((v2.length:Int) - z1)).toNat 0).toNat:Int)∧((v2.getD (IntKind.i64.wrap ((v2.length:Int) - z1)).toNat 0).toNat:Int) < 256) <|
   chk (v2.length+([(UInt8.ofNat ((v2.getD (IntKind.i64.wrap ((v2.length:Int) - z1)).toNat 0).toNat:Int).toNat)]).length≤4294967296) <|
   dE ((v2++([(UInt8.ofNat ((v2.getD (IntKind.i64.wrap ((v2.length:Int) - z1)).toNat 0).toNat:Int).toNat)]))) fun l1 =>
   jQ F a1 v1 z1 n l1 (IntKind.i64.wrap (v3+(1:Int)))
  else
   some v2
def jP (F:Nat) (a1:List UInt8):Nat→(List UInt8)→Int→Option (Out ((List UInt8)) ((List UInt8)×Int))
 | 0,_,_=>none
 | n+1,v4,v1 =>
  bif (decide (v1 < (a1.length:Int))) then
   chk (0≤v1∧v1 < a1.length) <|
   dO (bif (decide ((IntKind.i64.wrap ((a1.getD v1.toNat 0).toNat:Int)) < (128:Int))) then
     dE (IntKind.i64.wrap ((IntKind.i64.wrap (v1+(1:Int)))+(IntKind.i64.wrap ((a1.getD v1.toNat 0).toNat:Int)))) fun z3 =>
     bif (decide ((IntKind.i64.wrap (z3+(1:Int))) > (a1.length:Int))) then
      some (.esc ([],(12:Int)))
     else
      dE (IntKind.i64.wrap ((IntKind.i64.wrap (v1+(1:Int)))+(IntKind.i64.wrap ((a1.getD v1.toNat 0).toNat:Int)))) fun z4 =>
      chk (0≤(IntKind.i64.wrap (v1+(1:Int)))∧(IntKind.i64.wrap (v1+(1:Int)))≤(IntKind.i64.wrap (z4+(1:Int)))∧(IntKind.i64.wrap (z4+(1:Int)))≤(a1.length:Int)) <|
      dE (((a1.drop (IntKind.i64.wrap (v1+(1:Int))).toNat).take ((IntKind.i64.wrap (z4+(1:Int))).toNat - (IntKind.i64.wrap (v1+(1:Int))).toNat))) fun z5 =>
      chk (v4.length+z5.length≤4294967296) <|
      dE (IntKind.i64.wrap ((IntKind.i64.wrap (v1+(1:Int)))+(IntKind.i64.wrap ((IntKind.i64.wrap ((a1.getD v1.toNat 0).toNat:Int))+(1:Int))))) fun z6 =>
      some (.go ((v4++z5),z6))
    else
     dE ((decide ((IntKind.i64.wrap ((IntKind.i64.wrap (v1+(1:Int)))+(2:Int))) > (a1.length:Int)))) fun z7 =>
     bif z7 then
      some (.esc ([],(12:Int)))
     else
      chk (0≤(IntKind.i64.wrap (v1+(1:Int)))∧(IntKind.i64.wrap (v1+(1:Int))) < a1.length) <|
      dE (IntKind.i64.wrap ((IntKind.i64.wrap ((a1.getD (IntKind.i64.wrap (v1+(1:Int))).toNat 0).toNat:Int)) * 2 ^ (min (8:Int).toNat IntKind.i64.bits))) fun z8 =>
      chk (0≤(IntKind.i64.wrap ((IntKind.i64.wrap (v1+(1:Int)))+(1:Int)))∧(IntKind.i64.wrap ((IntKind.i64.wrap (v1+(1:Int)))+(1:Int))) < a1.length) <|
      dE (((a1.getD (IntKind.i64.wrap ((IntKind.i64.wrap (v1+(1:Int)))+(1:Int))).toNat 0).toNat:Int)) fun z9 =>
      dE (IntKind.i64.wrap ((BitVec.ofInt IntKind.i64.bits z8 ||| BitVec.ofInt IntKind.i64.bits (IntKind.i64.wrap z9)).toNat:Int)) fun z1 =>
      bif (bif (z1 == (0:Int)) then true else (decide (z1 > (v4.length:Int)))) then
       some (.esc ([],(3:Int)))
      else
       call (jQ F a1 v1 z1 F v4 (0:Int))
        fun v5 =>
       some (.go (v5,IntKind.i64.wrap ((IntKind.i64.wrap (v1+(1:Int)))+(2:Int)))))
    (fun e=>some (.esc e)) fun (v6,v7) =>
   bif (decide ((v6.length:Int) > (65536:Int))) then
    some (.esc ([],(2:Int)))
   else
    jP F a1 n v6 v7
  else
   some (.go v4)
/-- (printworks/filter.copies).decode -/
def nL (F:Nat) (a0:dG) (a1:List UInt8):Option ((List UInt8)×Int) :=
 dO (jP F a1 F [] (0:Int))
  (fun e=>some e) fun v8 =>
 some (v8,(0:Int))
def nD (F:Nat) (a0:List UInt8):Nat→Int→Int→Option (Out Int ((List UInt8)×Int))
 | 0,_,_=>none
 | n+1,v1,v2 =>
  bif (decide (v2 < (5:Int))) then
   dO (bif (decide (v2 < (a0.length:Int))) then
     chk (0≤v2∧v2 < a0.length) <|
     chk ((((decide (((a0.getD v2.toNat 0).toNat:Int) < (33:Int))) == false) && true)=true→0≤v2∧v2 < a0.length) <|
     dE ((bif (decide (((a0.getD v2.toNat 0).toNat:Int) < (33:Int))) then true else (decide (((a0.getD v2.toNat 0).toNat:Int) > (117:Int))))) fun z1 =>
     bif z1 then
      some (.esc ([],(5:Int)))
     else
      chk (0≤v2∧v2 < a0.length) <|
      some (.go (IntKind.u64.wrap (IntKind.u8.wrap (((a0.getD v2.toNat 0).toNat:Int) - (33:Int)))))
    else
     some (.go (84:Int)))
    (fun e=>some (.esc e)) fun v3 =>
   nD F a0 n (IntKind.u64.wrap ((IntKind.u64.wrap (v1 * (85:Int)))+v3)) (IntKind.i64.wrap (v2+(1:Int)))
  else
   some (.go v1)
/-- printworks/filter.ungroup -/
def wF (F:Nat) (a0:List UInt8):Option ((List UInt8)×Int) :=
 dO (nD F a0 F (0:Int) (0:Int))
  (fun e=>some e) fun v4 =>
 bif ((a0.length:Int) == (1:Int)) then
  some ([],(12:Int))
 else
  bif ((v4.fdiv (2 ^ (min (32:Int).toNat IntKind.u64.bits))) != (0:Int)) then
   some ([],(3:Int))
  else
   chk (0≤(IntKind.u8.wrap (v4.fdiv (2 ^ (min (24:Int).toNat IntKind.u64.bits))))∧(IntKind.u8.wrap (v4.fdiv (2 ^ (min (24:Int).toNat IntKind.u64.bits)))) < 256) <|
   chk (0≤(IntKind.u8.wrap (v4.fdiv (2 ^ (min (16:Int).toNat IntKind.u64.bits))))∧(IntKind.u8.wrap (v4.fdiv (2 ^ (min (16:Int).toNat IntKind.u64.bits)))) < 256) <|
   chk (0≤(IntKind.u8.wrap (v4.fdiv (2 ^ (min (8:Int).toNat IntKind.u64.bits))))∧(IntKind.u8.wrap (v4.fdiv (2 ^ (min (8:Int).toNat IntKind.u64.bits)))) < 256) <|
   chk (0≤(IntKind.u8.wrap v4)∧(IntKind.u8.wrap v4) < 256) <|
   chk (0≤(IntKind.i64.wrap ((a0.length:Int) - (1:Int)))∧(IntKind.i64.wrap ((a0.length:Int) - (1:Int)))≤(([(UInt8.ofNat (IntKind.u8.wrap (v4.fdiv (2 ^ (min (24:Int).toNat IntKind.u64.bits)))).toNat),(UInt8.ofNat (IntKind.u8.wrap (v4.fdiv (2 ^ (min (16:Int).toNat IntKind.u64.bits)))).toNat),(UInt8.ofNat (IntKind.u8.wrap (v4.fdiv (2 ^ (min (8:Int).toNat IntKind.u64.bits)))).toNat),(UInt8.ofNat (IntKind.u8.wrap v4).toNat)]).length:Int)) <|
   dE ((([(UInt8.ofNat (IntKind.u8.wrap (v4.fdiv (2 ^ (min (24:Int).toNat IntKind.u64.bits)))).toNat),(UInt8.ofNat (IntKind.u8.wrap (v4.fdiv (2 ^ (min (16:Int).toNat IntKind.u64.bits)))).toNat),(UInt8.ofNat (IntKind.u8.wrap (v4.fdiv (2 ^ (min (8:Int).toNat IntKind.u64.bits)))).toNat),(UInt8.ofNat (IntKind.u8.wrap v4).toNat)]).take (IntKind.i64.wrap ((a0.length:Int) - (1:Int))).toNat)) fun z2 =>
   call (vG F z2) fun y1 =>
   bif (!(y1 == a0)) then
    some ([],(4:Int))
   else
    some (z2,(0:Int))
def kQ (F:Nat)  : Nat→(List UInt8)→(List UInt8)→Option (Out ((List UInt8)) ((List UInt8)×Int))
 | 0,_,_=>none
 | n+1,v1,v2 =>
  bif (!(v1 == [])) then
   dO (chk (0≤(0:Int)∧(0:Int) < v1.length) <|
    bif (((v1.getD (0:Int).toNat 0).toNat:Int) == (122:Int)) then
     call (bS F ([0,0,0,0]:List UInt8) v2) fun y1 =>
     chk (0≤(1:Int)∧(1:Int)≤(v1.length:Int)∧(v1.length:Int)≤(v1.length:Int)) <|
     some (.go (((v1.drop (1:Int).toNat).take ((v1.length:Int).toNat - (1:Int).toNat)),y1.2.2))
    else
     chk (0≤(0:Int)∧(0:Int)≤(if (5:Int) < (v1.length:Int) then (5:Int) else (v1.length:Int))∧(if (5:Int) < (v1.length:Int) then (5:Int) else (v1.length:Int))≤(v1.length:Int)) <|
     dE (((v1.drop (0:Int).toNat).take ((if (5:Int) < (v1.length:Int) then (5:Int) else (v1.length:Int)).toNat - (0:Int).toNat))) fun z1 =>
     call (wF F z1) fun y2 =>
     bif (y2.2 != (0:Int)) then
      some (.esc ([],y2.2))
     else
      call (bS F y2.1 v2) fun y3 =>
      chk (0≤(if (5:Int) < (v1.length:Int) then (5:Int) else (v1.length:Int))∧(if (5:Int) < (v1.length:Int) then (5:Int) else (v1.length:Int))≤(v1.length:Int)∧(v1.length:Int)≤(v1.length:Int)) <|
      dE (((v1.drop (if (5:Int) < (v1.length:Int) then (5:Int) else (v1.length:Int)).toNat).take ((v1.length:Int).toNat - (if (5:Int) < (v1.length:Int) then (5:Int) else (v1.length:Int)).toNat))) fun z2 =>
      some (.go (z2,y3.2.2)))
    (fun e=>some (.esc e)) fun (v3,v4) =>
   call (dU F v4) fun y4 =>
   bif (decide (y4.1 > (65536:Int))) then
    some (.esc ([],(2:Int)))
   else
    kQ F n v3 v4
  else
   some (.go v2)
/-- (printworks/filter.text).decode -/
def qI (F:Nat) (a0:dG) (a1:List UInt8):Option ((List UInt8)×Int) :=
 dO (kQ F F a1 [])
  (fun e=>some e) fun v5 =>
 chk (v5.length≤9223372036854775807) <|
 some (v5,(0:Int))
/-- the method printworks/filter.decode -/
def mT (F:Nat) (x:fA) (a1:List UInt8):Option ((List UInt8)×Int) :=
 match x with
 | .nil=>none
 | .k_runs x=>pU F x a1
 | .k_rows x=>qF F x a1
 | .k_copies x=>nL F x a1
 | .k_text x=>qI F x a1
def oG (F:Nat) (a0:List dA):Nat→(List UInt8)→Int→Option (Out ((List UInt8)) ((List UInt8)×Int))
 | 0,_,_=>none
 | n+1,v1,v2 =>
  bif (decide (v2 ≥ (0:Int))) then
   chk (0≤v2∧v2 < a0.length) <|
   call (pO F (a0.getD v2.toNat (dA.mk 0 0))) fun y1 =>
   call (mT F y1 v1) fun y2 =>
   bif (y2.2 != (0:Int)) then
    some (.esc ([],y2.2))
   else
    oG F a0 n y2.1 (IntKind.i64.wrap (v2 - (1:Int)))
  else
   some (.go v1)
/-- printworks/filter.Decode -/
def xH (F:Nat) (a0:List dA) (a1:List UInt8):Option ((List UInt8)×Int) :=
 call (vF F a0) fun y3 =>
 bif (y3 != (0:Int)) then
  some ([],y3)
 else
  bif (decide ((a1.length:Int) > (65536:Int))) then
   some ([],(2:Int))
  else
   dO (oG F a0 F a1 (IntKind.i64.wrap ((a0.length:Int) - (1:Int))))
    (fun e=>some e) fun v3 =>
   bif (decide ((v3.length:Int) > (16384:Int))) then
    some ([],(2:Int))
   else
    call (tQ F v3) fun y4 =>
    some (y4,(0:Int))
/-- (*printworks/pagefile.reader).put -/
def oO (F:Nat) (a0:Int) (c1:List UInt8) (c2:Int) (c3:List aJ):Option ((List UInt8)×Int×(List aJ)) :=
 call (fO F c1 c2 c3) fun y1 =>
 call (zP F y1.1) fun y2 =>
 call (tU F) fun y3 =>
 call (fO F y1.2.1 y1.2.2.1 y1.2.2.2) fun y4 =>
 call (xH F y3 y4.1) fun y5 =>
 bif (bif (y2.2.2 != (0:Int)) then true else (y5.2 != (0:Int))) then
  none
 else
  call (gW F (bC.mk y4.2.2.1 y4.2.2.2) a0) fun y6 =>
  bif y6.2 then
   chk (0≤y6.1∧y6.1 < y4.2.2.2.length) <|
   some (y4.2.1,y4.2.2.1,(y4.2.2.2.set y6.1.toNat (aJ.mk a0 y2.1 y5.1)))
  else
   chk (0≤y6.1∧y6.1≤(y4.2.2.2.length:Int)∧y4.2.2.2.length+1≤4294967296) <|
   some (y4.2.1,y4.2.2.1,(y4.2.2.2.take y6.1.toNat++([(aJ.mk a0 y2.1 y5.1)])++y4.2.2.2.drop y6.1.toNat))
def gH (F:Nat)  : Nat→Int→(List UInt8)→Int→(List aJ)→Option ((List UInt8)×Int×(List aJ))
 | 0,_,_,_,_=>none
 | n+1,v1,v2,v3,v4 =>
  bif (decide (v1 > (0:Int))) then
   call (fO F v2 v3 v4) fun y1 =>
   call (strings_Cut F y1.1 ([32]:List UInt8)) fun y2 =>
   call (lG F y2.1) fun y3 =>
   call (gW F (bC.mk y1.2.2.1 y1.2.2.2) y3) fun y4 =>
   bif (bif y4.2 then (y2.2.1 == ([48]:List UInt8)) else false) then
    none
   else
    gH F n (IntKind.i64.wrap (v1 - (1:Int))) y1.2.1 y1.2.2.1 y1.2.2.2
  else
   some (v2,v3,v4)
/-- (*printworks/pagefile.reader).table -/
def mY (F:Nat) (a0:Int) (c1:List UInt8) (c2:Int) (c3:List aJ):Option ((List UInt8)×Int×(List aJ)) :=
 call (gH F F a0 c1 c2 c3)
  fun (v5,v6,v7) =>
 some (v5,v6,v7)
def eP (F:Nat)  : Nat→(List UInt8)→Int→(List aJ)→Option (Out Empty (bC×(List UInt8)×Int×(List aJ)))
 | 0,_,_,_=>none
 | n+1,v1,v2,v3 =>
  call (fO F v1 v2 v3) fun y1 =>
  call (strings_Split F y1.1 ([32]:List UInt8)) fun y2 =>
  chk (0≤(0:Int)∧(0:Int) < y2.length) <|
  dE ((bif ((y2.getD (0:Int).toNat []) == ([126,111,98,106]:List UInt8)) then ((y2.length:Int) == (6:Int)) else false)) fun z1 =>
  bif z1 then
   chk (0≤(1:Int)∧(1:Int) < y2.length) <|
   call (lG F (y2.getD (1:Int).toNat [])) fun y3 =>
   call (oO F y3 y1.2.1 y1.2.2.1 y1.2.2.2) fun y4 =>
   eP F n y4.1 y4.2.1 y4.2.2
  else
   chk (0≤(0:Int)∧(0:Int) < y2.length) <|
   dE ((bif ((y2.getD (0:Int).toNat []) == ([126,116,97,98,108,101]:List UInt8)) then ((y2.length:Int) == (4:Int)) else false)) fun z2 =>
   bif z2 then
    chk (0≤(3:Int)∧(3:Int) < y2.length) <|
    call (lG F (y2.getD (3:Int).toNat [])) fun y5 =>
    call (mY F y5 y1.2.1 y1.2.2.1 y1.2.2.2) fun y6 =>
    eP F n y6.1 y6.2.1 y6.2.2
   else
    chk (0≤(0:Int)∧(0:Int) < y2.length) <|
    dE ((bif ((y2.getD (0:Int).toNat []) == ([126,101,110,100]:List UInt8)) then ((y2.length:Int) == (6:Int)) else false)) fun z3 =>
    bif z3 then
     chk (0≤(4:Int)∧(4:Int) < y2.length) <|
     call (lG F (y2.getD (4:Int).toNat [])) fun y7 =>
     some (.esc ((bC.mk y7 y1.2.2.2),y1.2.1,y7,y1.2.2.2))
    else
     none
/-- (*printworks/pagefile.reader).revision -/
def jY (F:Nat) (c0:List UInt8) (c1:Int) (c2:List aJ):Option (bC×(List UInt8)×Int×(List aJ)) :=
 call (iV F c2) fun y8 =>
 dO (eP F F c0 c1 y8)
  (fun e=>some e) fun (s:Empty) =>
 s.elim
/-- Copies of documents: one with one item. -/
def bZ8 (F:Nat) (l:List bC):Option (List bC) :=
 match l with
 | [d]=>match d.f1 with
  | [x]=>call (aK8 F x.f1 []) fun y=>some [bC.mk d.f0 [aJ.mk x.f0 y.1 x.f2]]
  | _=>none
 | _=>none
/-- printworks/pagefile.copied -/
def uK (F:Nat) (a0:List bC):Option (List bC) :=
 bZ8 F a0
def jU (F:Nat)  : Nat→(List bC)→(List UInt8)→Int→(List aJ)→Option ((List bC))
 | 0,_,_,_,_=>none
 | n+1,v1,v2,v3,v4 =>
  bif (bif (!(v2 == [])) then true else ((v1.length:Int) == (0:Int))) then
   bif ((v1.length:Int) == (16:Int)) then
    none
   else
    call (jY F v2 v3 v4) fun y1 =>
    call (kJ F y1.1) fun y2 =>
    bif (y2 != (0:Int)) then
     none
    else
     chk (v1.length+([y1.1]).length≤4294967296) <|
     jU F n (v1++([y1.1])) y1.2.1 y1.2.2.1 y1.2.2.2
  else
   some v1
/-- printworks/pagefile.History -/
def sO (F:Nat) (a0:List UInt8):Option ((List bC)×Int) :=
 bif (decide ((a0.length:Int) > (65536:Int))) then
  none
 else
  call (fO F a0 0 []) fun y3 =>
  chk (y3.1.length+([10]:List UInt8).length≤9223372036854775807) <|
  bif (!((y3.1++([10]:List UInt8)) == ([126,112,97,103,101,115,32,49,10]:List UInt8))) then
   none
  else
   call (jU F F [] y3.2.1 y3.2.2.1 y3.2.2.2)
    fun v5 =>
   call (rM F v5) fun y4 =>
   bif (!(y4 == a0)) then
    none
   else
    call (uK F v5) fun y5 =>
    some (y5,(0:Int))
/-- printworks/pagefile.Read -/
def wX (F:Nat) (a0:List UInt8):Option (bC×Int) :=
 call (sO F a0) fun y1 =>
 bif (y1.2 != (0:Int)) then
  some ((bC.mk 0 []),y1.2)
 else
  chk (0≤(IntKind.i64.wrap ((y1.1.length:Int) - (1:Int)))∧(IntKind.i64.wrap ((y1.1.length:Int) - (1:Int))) < y1.1.length) <|
  some ((bC.mk ((y1.1.getD (IntKind.i64.wrap ((y1.1.length:Int) - (1:Int))).toNat (bC.mk 0 [])).f0) ((y1.1.getD (IntKind.i64.wrap ((y1.1.length:Int) - (1:Int))).toNat (bC.mk 0 [])).f1)),(0:Int))
def tM (F:Nat) (a0:aC) (a1:aC):Nat→Int→Option (Out Unit Bool)
 | 0,_=>none
 | n+1,v1 =>
  bif (decide (v1 < (a0.f3.length:Int))) then
   chk (0≤v1∧v1 < a0.f3.length) <|
   chk (0≤v1∧v1 < a1.f3.length) <|
   bif (!((a0.f3.getD v1.toNat []) == (a1.f3.getD v1.toNat []))) then
    some (.esc false)
   else
    tM F a0 a1 n (IntKind.i64.wrap (v1+(1:Int)))
  else
   some (.go ())
def tO (F:Nat) (a0:aC) (a1:aC) (rec_ref3_Alike:aC→aC→Option Bool):Nat→Int→Option (Out Unit Bool)
 | 0,_=>none
 | n+1,v2 =>
  bif (decide (v2 < (a0.f4.length:Int))) then
   chk (0≤v2∧v2 < a0.f4.length) <|
   chk (0≤v2∧v2 < a1.f4.length) <|
   call (rec_ref3_Alike (a0.f4.getD v2.toNat (aC.mk 0 0 [] [] [])) (a1.f4.getD v2.toNat (aC.mk 0 0 [] [] []))) fun y1 =>
   bif (!y1) then
    some (.esc false)
   else
    tO F a0 a1 rec_ref3_Alike n (IntKind.i64.wrap (v2+(1:Int)))
  else
   some (.go ())
/-- printworks/printworksref3.Alike -/
def uQ (F:Nat) (rec_ref3_Alike:aC→aC→Option Bool) (a0:aC) (a1:aC):Option Bool :=
 dE ((bif (bif (bif (a0.f0 != a1.f0) then true else (a0.f1 != a1.f1)) then true else (!(a0.f2 == a1.f2))) then true else ((a0.f3.length:Int) != (a1.f3.length:Int)))) fun z1 =>
 bif (bif z1 then true else ((a0.f4.length:Int) != (a1.f4.length:Int))) then
  some false
 else
  dO (tM F a0 a1 F (0:Int))
   (fun e=>some e) fun _ =>
  dO (tO F a0 a1 rec_ref3_Alike F (0:Int))
   (fun e=>some e) fun _ =>
  some true
def uN (F:Nat):Nat→aC→aC→Option Bool
 | 0=>fun _ _=>none
 | n+1=>uQ F (uN F n)
def aW9 (F:Nat) (a0:aC) (a1:aC):Option Bool:=uN F F a0 a1
/-- printworks/printworksref3.SameItem -/
def xM (F:Nat) (a0:aJ) (a1:aJ):Option Bool :=
 call ((bif (((bif (a0.f0 == a1.f0) then (a0.f2 == a1.f2) else false) == true) && true) then aW9 F a0.f1 a1.f1 else some false)) fun y1 =>
 some (bif (bif (a0.f0 == a1.f0) then (a0.f2 == a1.f2) else false) then y1 else false)
def pG (F:Nat) (a0:bC) (a1:bC):Nat→Int→Option (Out Unit Bool)
 | 0,_=>none
 | n+1,v1 =>
  bif (decide (v1 < (a0.f1.length:Int))) then
   chk (0≤v1∧v1 < a0.f1.length) <|
   chk (0≤v1∧v1 < a1.f1.length) <|
   call (xM F (a0.f1.getD v1.toNat (aJ.mk 0 (aC.mk 0 0 [] [] []) [])) (a1.f1.getD v1.toNat (aJ.mk 0 (aC.mk 0 0 [] [] []) []))) fun y1 =>
   bif (!y1) then
    some (.esc false)
   else
    pG F a0 a1 n (IntKind.i64.wrap (v1+(1:Int)))
  else
   some (.go ())
/-- printworks/printworksref3.SameDoc -/
def yQ (F:Nat) (a0:bC) (a1:bC):Option Bool :=
 bif (bif (a0.f0 != a1.f0) then true else ((a0.f1.length:Int) != (a1.f1.length:Int))) then
  some false
 else
  dO (pG F a0 a1 F (0:Int))
   (fun e=>some e) fun _ =>
  some true
/-- printworks/printworkslaw3.fileFact -/
def pF (F:Nat)  : Option Bool :=
 call (vD F) fun y1 =>
 call (vV F y1) fun y2 =>
 call (wX F y2.1) fun y3 =>
 call ((bif (((bif (y2.2 == (0:Int)) then (y3.2 == (0:Int)) else false) == true) && true) then vD F else some (bC.mk 0 []))) fun y4 =>
 call ((bif (((bif (y2.2 == (0:Int)) then (y3.2 == (0:Int)) else false) == true) && true) then yQ F y3.1 y4 else some false)) fun y5 =>
 dE ((bif (bif (bif (y2.2 == (0:Int)) then (y3.2 == (0:Int)) else false) then y5 else false) then ((y2.1.length:Int) == (78:Int)) else false)) fun z1 =>
 some z1
/-- printworks/printworksref3.digit -/
def nT (F:Nat) (a0:Int):Option Bool :=
 some (bif (decide (a0 ≥ (48:Int))) then (decide (a0≤(57:Int))) else false)
/-- printworks/printworksref3.letter -/
def mI (F:Nat) (a0:Int):Option Bool :=
 dE ((bif (bif (decide (a0 ≥ (65:Int))) then (decide (a0≤(90:Int))) else false) then true else (bif (decide (a0 ≥ (97:Int))) then (decide (a0≤(122:Int))) else false))) fun z1 =>
 some z1
def gY (F:Nat) (a0:List UInt8):Nat→Int→Option (Out Unit Int)
 | 0,_=>none
 | n+1,v1 =>
  bif (decide (v1 < (a0.length:Int))) then
   chk (0≤v1∧v1 < a0.length) <|
   call (mI F ((a0.getD v1.toNat 0).toNat:Int)) fun y1 =>
   chk ((((!y1) == true) && true)=true→0≤v1∧v1 < a0.length) <|
   call ((bif (((!y1) == true) && true) then nT F ((a0.getD v1.toNat 0).toNat:Int) else some false)) fun y2 =>
   chk ((((bif (!y1) then (!y2) else false) == true) && true)=true→0≤v1∧v1 < a0.length) <|
   dE ((bif (bif (!y1) then (!y2) else false) then (((a0.getD v1.toNat 0).toNat:Int) != (42:Int)) else false)) fun z1 =>
   chk (((z1 == true) && true)=true→0≤v1∧v1 < a0.length) <|
   chk ((((bif z1 then (((a0.getD v1.toNat 0).toNat:Int) != (95:Int)) else false) == true) && true)=true→0≤v1∧v1 < a0.length) <|
   dE ((bif (bif z1 then (((a0.getD v1.toNat 0).toNat:Int) != (95:Int)) else false) then (((a0.getD v1.toNat 0).toNat:Int) != (46:Int)) else false)) fun z2 =>
   bif z2 then
    some (.esc (5:Int))
   else
    gY F a0 n (IntKind.i64.wrap (v1+(1:Int)))
  else
   some (.go ())
/-- printworks/printworksref3.wordError -/
def lX (F:Nat) (a0:List UInt8):Option Int :=
 dO (gY F a0 F (0:Int))
  (fun e=>some e) fun _ =>
 bif (decide ((a0.length:Int) > (31:Int))) then
  some (2:Int)
 else
  some (0:Int)
def jS (F:Nat)  : Nat→Int→(List UInt8)→Option ((List UInt8))
 | 0,_,_=>none
 | n+1,v1,v2 =>
  bif (v1 != (0:Int)) then
   call (bif (decide ((v1.tmod (10:Int)) < (0:Int))) then
     some (IntKind.i64.wrap (0 - (v1.tmod (10:Int))))
    else
     some (v1.tmod (10:Int)))
    fun v3 =>
   chk (0≤(IntKind.u8.wrap (IntKind.i64.wrap ((48:Int)+v3)))∧(IntKind.u8.wrap (IntKind.i64.wrap ((48:Int)+v3))) < 256) <|
   chk (([(UInt8.ofNat (IntKind.u8.wrap (IntKind.i64.wrap ((48:Int)+v3))).toNat)]).length+v2.length≤9223372036854775807) <|
   jS F n (IntKind.i64.wrap (v1.tdiv (10:Int))) (([(UInt8.ofNat (IntKind.u8.wrap (IntKind.i64.wrap ((48:Int)+v3))).toNat)])++v2)
  else
   some v2
/-- printworks/printworksref3.Decimal -/
def oC (F:Nat) (a0:Int):Option ((List UInt8)) :=
 bif (a0 == (0:Int)) then
  some ([48]:List UInt8)
 else
  call (jS F F a0 [])
   fun v4 =>
  bif (decide (a0 < (0:Int))) then
   chk (([45]:List UInt8).length+v4.length≤9223372036854775807) <|
   some (([45]:List UInt8)++v4)
  else
   some v4
def gO (F:Nat) (a0:aM):Nat→Bool→Int→Option Bool
 | 0,_,_=>none
 | n+1,v1,v2 =>
  bif (decide (v2 < (a0.f2.length:Int))) then
   chk (((v1 == false) && true)=true→0≤v2∧v2 < a0.f2.length) <|
   gO F a0 n (bif v1 then true else (((a0.f2.getD v2.toNat 0).toNat:Int) == (0:Int))) (IntKind.i64.wrap (v2+(1:Int)))
  else
   some v1
def eF (F:Nat) (a0:aM):Nat→(List UInt8)→Int→Option ((List UInt8))
 | 0,_,_=>none
 | n+1,v3,v4 =>
  bif (decide (v4 < (a0.f2.length:Int))) then
   call (chk (0≤v4∧v4 < a0.f2.length) <|
    chk (0≤(IntKind.u8.wrap (((a0.f2.getD v4.toNat 0).toNat:Int).tdiv (16:Int)))∧(IntKind.u8.wrap (((a0.f2.getD v4.toNat 0).toNat:Int).tdiv (16:Int))) < ([48,49,50,51,52,53,54,55,56,57,97,98,99,100,101,102]:List UInt8).length) <|
    dE (((([48,49,50,51,52,53,54,55,56,57,97,98,99,100,101,102]:List UInt8).getD (IntKind.u8.wrap (((a0.f2.getD v4.toNat 0).toNat:Int).tdiv (16:Int))).toNat 0).toNat:Int)) fun z1 =>
    chk (0≤(((a0.f2.getD v4.toNat 0).toNat:Int).tmod (16:Int))∧(((a0.f2.getD v4.toNat 0).toNat:Int).tmod (16:Int)) < ([48,49,50,51,52,53,54,55,56,57,97,98,99,100,101,102]:List UInt8).length) <|
    dE (((([48,49,50,51,52,53,54,55,56,57,97,98,99,100,101,102]:List UInt8).getD (((a0.f2.getD v4.toNat 0).toNat:Int).tmod (16:Int)).toNat 0).toNat:Int)) fun z2 =>
    chk (0≤z1∧z1 < 256) <|
    chk (0≤z2∧z2 < 256) <|
    call ((bif (((a0.f0 == (2:Int)) == true) && true) then mI F ((a0.f2.getD v4.toNat 0).toNat:Int) else some false)) fun y1 =>
    call ((bif ((y1 == false) && (((a0.f0 == (2:Int)) == true) && true)) then nT F ((a0.f2.getD v4.toNat 0).toNat:Int) else some false)) fun y2 =>
    dE ((bif (bif y1 then true else y2) then true else (((a0.f2.getD v4.toNat 0).toNat:Int) == (95:Int)))) fun z3 =>
    dE ((bif (bif z3 then true else (((a0.f2.getD v4.toNat 0).toNat:Int) == (45:Int))) then true else (((a0.f2.getD v4.toNat 0).toNat:Int) == (46:Int)))) fun z4 =>
    bif (bif (a0.f0 == (2:Int)) then z4 else false) then
     chk (0≤((a0.f2.getD v4.toNat 0).toNat:Int)∧((a0.f2.getD v4.toNat 0).toNat:Int) < 256) <|
     chk (v3.length+([(UInt8.ofNat ((a0.f2.getD v4.toNat 0).toNat:Int).toNat)]).length≤4294967296) <|
     some (v3++([(UInt8.ofNat ((a0.f2.getD v4.toNat 0).toNat:Int).toNat)]))
    else
     bif (a0.f0 == (2:Int)) then
      chk (v3.length+([(UInt8.ofNat (35:Int).toNat)]).length≤4294967296) <|
      chk ((v3++([(UInt8.ofNat (35:Int).toNat)])).length+([(UInt8.ofNat z1.toNat),(UInt8.ofNat z2.toNat)]).length≤4294967296) <|
      dE (((v3++([(UInt8.ofNat (35:Int).toNat)]))++([(UInt8.ofNat z1.toNat),(UInt8.ofNat z2.toNat)]))) fun l1 =>
      some l1
     else
      bif (((a0.f2.getD v4.toNat 0).toNat:Int) == (10:Int)) then
       chk (v3.length+([(UInt8.ofNat (92:Int).toNat),(UInt8.ofNat (110:Int).toNat)]).length≤4294967296) <|
       some (v3++([(UInt8.ofNat (92:Int).toNat),(UInt8.ofNat (110:Int).toNat)]))
      else
       bif (((a0.f2.getD v4.toNat 0).toNat:Int) == (9:Int)) then
        chk (v3.length+([(UInt8.ofNat (92:Int).toNat),(UInt8.ofNat (116:Int).toNat)]).length≤4294967296) <|
        some (v3++([(UInt8.ofNat (92:Int).toNat),(UInt8.ofNat (116:Int).toNat)]))
       else
        dE ((bif (((a0.f2.getD v4.toNat 0).toNat:Int) == (40:Int)) then true else (((a0.f2.getD v4.toNat 0).toNat:Int) == (41:Int)))) fun z5 =>
        bif (bif z5 then true else (((a0.f2.getD v4.toNat 0).toNat:Int) == (92:Int))) then
         chk (0≤((a0.f2.getD v4.toNat 0).toNat:Int)∧((a0.f2.getD v4.toNat 0).toNat:Int) < 256) <|
         chk (v3.length+([(UInt8.ofNat (92:Int).toNat),(UInt8.ofNat ((a0.f2.getD v4.toNat 0).toNat:Int).toNat)]).length≤4294967296) <|
         dE ((v3++([(UInt8.ofNat (92:Int).toNat),(UInt8.ofNat ((a0.f2.getD v4.toNat 0).toNat:Int).toNat)]))) fun l2 =>
         some l2
        else
         dE ((bif (decide (((a0.f2.getD v4.toNat 0).toNat:Int) < (32:Int))) then true else (decide (((a0.f2.getD v4.toNat 0).toNat:Int) ≥ (126:Int))))) fun z6 =>
         bif z6 then
          chk (v3.length+([(UInt8.ofNat (92:Int).toNat),(UInt8.ofNat (120:Int).toNat)]).length≤4294967296) <|
          chk ((v3++([(UInt8.ofNat (92:Int).toNat),(UInt8.ofNat (120:Int).toNat)])).length+([(UInt8.ofNat z1.toNat),(UInt8.ofNat z2.toNat)]).length≤4294967296) <|
          dE (((v3++([(UInt8.ofNat (92:Int).toNat),(UInt8.ofNat (120:Int).toNat)]))++([(UInt8.ofNat z1.toNat),(UInt8.ofNat z2.toNat)]))) fun l3 =>
          some l3
         else
          chk (0≤((a0.f2.getD v4.toNat 0).toNat:Int)∧((a0.f2.getD v4.toNat 0).toNat:Int) < 256) <|
          chk (v3.length+([(UInt8.ofNat ((a0.f2.getD v4.toNat 0).toNat:Int).toNat)]).length≤4294967296) <|
          some (v3++([(UInt8.ofNat ((a0.f2.getD v4.toNat 0).toNat:Int).toNat)])))
    fun v5 =>
   eF F a0 n v5 (IntKind.i64.wrap (v4+(1:Int)))
  else
   some v3
/-- printworks/printworksref3.Spelled -/
def bM (F:Nat) (a0:aM):Option ((List UInt8)×Int) :=
 dE ((bif (bif (a0.f0 == (2:Int)) then true else (a0.f0 == (3:Int))) then true else (a0.f0 == (5:Int)))) fun z7 =>
 bif (bif (decide (a0.f0 < (1:Int))) then true else (decide (a0.f0 > (9:Int)))) then
  some ([],(14:Int))
 else
  dE ((bif (!(bif (a0.f0 == (1:Int)) then true else (a0.f0 == (4:Int)))) then (a0.f1 != (0:Int)) else false)) fun z8 =>
  bif (bif z8 then true else (bif (!z7) then (!(a0.f2 == [])) else false)) then
   some ([],(4:Int))
  else
   dO (bif (a0.f0 == (2:Int)) then
     call (gO F a0 F (a0.f2 == []) (0:Int))
      fun v6 =>
     bif v6 then
      some (.esc ([],(4:Int)))
     else
      some (.go ())
    else
     some (.go ()))
    (fun e=>some e) fun _ =>
   dE ((bif (a0.f0 == (1:Int)) then (bif (decide (a0.f1 > (2147483647:Int))) then true else (decide (a0.f1 < (-2147483647:Int)))) else false)) fun z9 =>
   dE ((bif (a0.f0 == (4:Int)) then (bif (decide (a0.f1 > (255:Int))) then true else (decide (a0.f1 < (1:Int)))) else false)) fun z10 =>
   bif (bif z9 then true else z10) then
    some ([],(3:Int))
   else
    dE ((bif (bif (a0.f0 == (2:Int)) then (decide ((a0.f2.length:Int) > (31:Int))) else false) then true else (bif (a0.f0 == (3:Int)) then (decide ((a0.f2.length:Int) > (1024:Int))) else false))) fun z11 =>
    bif z11 then
     some ([],(2:Int))
    else
     bif (a0.f0 == (5:Int)) then
      chk ((((a0.f2 == []) == false) && true)=true→0≤(0:Int)∧(0:Int) < a0.f2.length) <|
      call ((bif (((a0.f2 == []) == false) && true) then nT F ((a0.f2.getD (0:Int).toNat 0).toNat:Int) else some false)) fun y3 =>
      call ((bif (((bif (a0.f2 == []) then true else y3) == false) && true) then lX F a0.f2 else some 0)) fun y4 =>
      bif (bif (bif (a0.f2 == []) then true else y3) then true else (y4 == (5:Int))) then
       some ([],(4:Int))
      else
       call (lX F a0.f2) fun y5 =>
       bif (y5 != (0:Int)) then
        some ([],y5)
       else
        some (a0.f2,(0:Int))
     else
      bif (a0.f0 == (1:Int)) then
       call (oC F a0.f1) fun y6 =>
       some (y6,(0:Int))
      else
       bif (a0.f0 == (4:Int)) then
        call (oC F a0.f1) fun y7 =>
        chk (([64]:List UInt8).length+y7.length≤9223372036854775807) <|
        some ((([64]:List UInt8)++y7),(0:Int))
       else
        bif (a0.f0 == (6:Int)) then
         some (([91]:List UInt8),(0:Int))
        else
         bif (a0.f0 == (7:Int)) then
          some (([93]:List UInt8),(0:Int))
         else
          bif (a0.f0 == (8:Int)) then
           some (([60,60]:List UInt8),(0:Int))
          else
           bif (a0.f0 == (9:Int)) then
            some (([62,62]:List UInt8),(0:Int))
           else
            call (eF F a0 F [] (0:Int))
             fun v7 =>
            bif (a0.f0 == (2:Int)) then
             chk (([47]:List UInt8).length+v7.length≤9223372036854775807) <|
             some ((([47]:List UInt8)++v7),(0:Int))
            else
             chk (([40]:List UInt8).length+v7.length≤9223372036854775807) <|
             chk ((([40]:List UInt8)++v7).length+([41]:List UInt8).length≤9223372036854775807) <|
             some (((([40]:List UInt8)++v7)++([41]:List UInt8)),(0:Int))
def gD (F:Nat) (a0:aC):Nat→Int→Option (Out Unit Int)
 | 0,_=>none
 | n+1,v1 =>
  bif (decide (v1 < (a0.f3.length:Int))) then
   chk (0≤v1∧v1 < a0.f3.length) <|
   call (bM F (aM.mk (2:Int) 0 (a0.f3.getD v1.toNat []) 0 0)) fun y1 =>
   bif (y1.2 != (0:Int)) then
    some (.esc y1.2)
   else
    chk ((((decide (v1 > (0:Int))) == true) && true)=true→0≤(IntKind.i64.wrap (v1 - (1:Int)))∧(IntKind.i64.wrap (v1 - (1:Int))) < a0.f3.length) <|
    dE ((Op.bytesLess (a0.f3.getD v1.toNat []) (a0.f3.getD (IntKind.i64.wrap (v1 - (1:Int))).toNat []) || (a0.f3.getD v1.toNat []) == (a0.f3.getD (IntKind.i64.wrap (v1 - (1:Int))).toNat []))) fun z1 =>
    bif (bif (decide (v1 > (0:Int))) then z1 else false) then
     some (.esc (4:Int))
    else
     gD F a0 n (IntKind.i64.wrap (v1+(1:Int)))
  else
   some (.go ())
/-- printworks/printworksref3.partError -/
def nP (F:Nat) (a0:aC) (a1:Int):Option Int :=
 bif (bif (decide (a0.f0 < (0:Int))) then true else (decide (a0.f0 > (7:Int)))) then
  some (14:Int)
 else
  bif (decide (a1 > (12:Int))) then
   some (15:Int)
  else
   dE ((bif (bif (a0.f1 != (0:Int)) then (a0.f0 != (1:Int)) else false) then (a0.f0 != (2:Int)) else false)) fun z2 =>
   bif (bif z2 then (a0.f0 != (5:Int)) else false) then
    some (4:Int)
   else
    dE ((bif (bif (!(a0.f2 == [])) then (a0.f0 != (3:Int)) else false) then (a0.f0 != (4:Int)) else false)) fun z3 =>
    bif z3 then
     some (4:Int)
    else
     dE ((bif (bif (decide ((a0.f4.length:Int) > (0:Int))) then (a0.f0 != (6:Int)) else false) then (a0.f0 != (7:Int)) else false)) fun z4 =>
     bif z4 then
      some (4:Int)
     else
      dE ((bif (bif (a0.f0 == (7:Int)) then ((a0.f3.length:Int) != (a0.f4.length:Int)) else false) then true else (bif (a0.f0 != (7:Int)) then (decide ((a0.f3.length:Int) > (0:Int))) else false))) fun z5 =>
      bif z5 then
       some (4:Int)
      else
       dE ((bif (a0.f0 == (1:Int)) then (bif (decide (a0.f1 < (0:Int))) then true else (decide (a0.f1 > (1:Int)))) else false)) fun z6 =>
       bif z6 then
        some (3:Int)
       else
        bif (decide ((a0.f4.length:Int) > (256:Int))) then
         some (2:Int)
        else
         dO (gD F a0 F (0:Int))
          (fun e=>some e) fun _ =>
         some (0:Int)
def dL (F:Nat) (a1:aC) (a2:Int) (rec_ref3_tokensOf:(List aM)→aC→Int→Int→Option ((List aM)×Int×Int)):Nat→(List aM)→Int→Int→Option (Out ((List aM)×Int) ((List aM)×Int×Int))
 | 0,_,_,_=>none
 | n+1,v1,v2,v3 =>
  bif (decide (v2 < (a1.f4.length:Int))) then
   chk (0≤v2∧v2 < a1.f4.length) <|
   call (bif (a1.f0 == (7:Int)) then
     chk (0≤v2∧v2 < a1.f3.length) <|
     chk (v1.length+([(aM.mk (2:Int) 0 (a1.f3.getD v2.toNat []) 0 0)]).length≤4294967296) <|
     some (v1++([(aM.mk (2:Int) 0 (a1.f3.getD v2.toNat []) 0 0)]))
    else
     some v1)
    fun v4 =>
   call (rec_ref3_tokensOf v4 (a1.f4.getD v2.toNat (aC.mk 0 0 [] [] [])) (IntKind.i64.wrap (a2+(1:Int))) v3) fun y1 =>
   bif (y1.2.1 != (0:Int)) then
    some (.esc ([],y1.2.1,y1.2.2))
   else
    dL F a1 a2 rec_ref3_tokensOf n y1.1 (IntKind.i64.wrap (v2+(1:Int))) y1.2.2
  else
   some (.go (v1,v3))
/-- printworks/printworksref3.tokensOf -/
def gP (F:Nat) (rec_ref3_tokensOf:(List aM)→aC→Int→Int→Option ((List aM)×Int×Int)) (a0:List aM) (a1:aC) (a2:Int) (c3:Int):Option ((List aM)×Int×Int) :=
 bif (decide ((IntKind.i64.wrap (c3+(1:Int))) > (4096:Int))) then
  some ([],(2:Int),IntKind.i64.wrap (c3+(1:Int)))
 else
  call (nP F a1 a2) fun y2 =>
  bif (y2 != (0:Int)) then
   some ([],y2,IntKind.i64.wrap (c3+(1:Int)))
  else
   chk (0≤a1.f0∧a1.f0 < ([(5:Int),(5:Int),(1:Int),(2:Int),(3:Int),(4:Int),(6:Int),(8:Int)]).length) <|
   dE ((([(5:Int),(5:Int),(1:Int),(2:Int),(3:Int),(4:Int),(6:Int),(8:Int)]).getD a1.f0.toNat 0)) fun z1 =>
   call (bif (a1.f0 == (0:Int)) then
     some ([110,117,108,108]:List UInt8)
    else
     some a1.f2)
    fun v5 =>
   call (bif (a1.f0 == (1:Int)) then
     chk (0≤a1.f1∧a1.f1 < ([([102,97,108,115,101]:List UInt8),([116,114,117,101]:List UInt8)]).length) <|
     dE ((([([102,97,108,115,101]:List UInt8),([116,114,117,101]:List UInt8)]).getD a1.f1.toNat [])) fun z2 =>
     some ((0:Int),z2)
    else
     some (a1.f1,v5))
    fun (v6,v7) =>
   call (bM F (aM.mk z1 v6 v7 0 0)) fun y3 =>
   bif (y3.2 != (0:Int)) then
    some ([],y3.2,IntKind.i64.wrap (c3+(1:Int)))
   else
    chk (a0.length+([(aM.mk z1 v6 v7 0 0)]).length≤4294967296) <|
    bif (decide (a1.f0 < (6:Int))) then
     some ((a0++([(aM.mk z1 v6 v7 0 0)])),(0:Int),IntKind.i64.wrap (c3+(1:Int)))
    else
     dO (dL F a1 a2 rec_ref3_tokensOf F (a0++([(aM.mk z1 v6 v7 0 0)])) (0:Int) (IntKind.i64.wrap (c3+(1:Int))))
      (fun e=>some e) fun (v8,v9) =>
     chk (v8.length+([(aM.mk (IntKind.i64.wrap (z1+(1:Int))) 0 [] 0 0)]).length≤4294967296) <|
     some ((v8++([(aM.mk (IntKind.i64.wrap (z1+(1:Int))) 0 [] 0 0)])),(0:Int),v9)
def fM (F:Nat):Nat→(List aM)→aC→Int→Int→Option ((List aM)×Int×Int)
 | 0=>fun _ _ _ _=>none
 | n+1=>gP F (fM F n)
def xE (F:Nat) (a0:List aM) (a1:aC) (a2:Int) (c3:Int):Option ((List aM)×Int×Int):=fM F F a0 a1 a2 c3
def kD (F:Nat) (y1:(List aM)×Int×Int):Nat→(List UInt8)→Int→Option (Out ((List UInt8)) ((List UInt8)×Int))
 | 0,_,_=>none
 | n+1,v1,v2 =>
  bif (decide (v2 < (y1.1.length:Int))) then
   chk (0≤v2∧v2 < y1.1.length) <|
   call (bM F (y1.1.getD v2.toNat (aM.mk 0 0 [] 0 0))) fun y2 =>
   call (dE ((bif (((y1.1.getD v2.toNat (aM.mk 0 0 [] 0 0)).f0) == (1:Int)) then true else (((y1.1.getD v2.toNat (aM.mk 0 0 [] 0 0)).f0) == (5:Int)))) fun z1 =>
    chk ((((bif (decide (v2 > (0:Int))) then z1 else false) == true) && true)=true→0≤(IntKind.i64.wrap (v2 - (1:Int)))∧(IntKind.i64.wrap (v2 - (1:Int))) < y1.1.length) <|
    dE ((bif (bif (decide (v2 > (0:Int))) then z1 else false) then (((y1.1.getD (IntKind.i64.wrap (v2 - (1:Int))).toNat (aM.mk 0 0 [] 0 0)).f0) != (3:Int)) else false)) fun z2 =>
    chk (((z2 == true) && true)=true→0≤(IntKind.i64.wrap (v2 - (1:Int)))∧(IntKind.i64.wrap (v2 - (1:Int))) < y1.1.length) <|
    dE ((decide (((y1.1.getD (IntKind.i64.wrap (v2 - (1:Int))).toNat (aM.mk 0 0 [] 0 0)).f0) < (6:Int)))) fun z3 =>
    bif (bif z2 then z3 else false) then
     chk (v1.length+([(UInt8.ofNat (32:Int).toNat)]).length≤4294967296) <|
     some (v1++([(UInt8.ofNat (32:Int).toNat)]))
    else
     some v1)
    fun v3 =>
   chk (v3.length+y2.1.length≤4294967296) <|
   bif (decide (((v3++y2.1).length:Int) > (8192:Int))) then
    some (.esc ([],(2:Int)))
   else
    kD F y1 n (v3++y2.1) (IntKind.i64.wrap (v2+(1:Int)))
  else
   some (.go v1)
/-- printworks/printworksref3.Shown -/
def qB (F:Nat) (a0:aC):Option ((List UInt8)×Int) :=
 call (xE F [] a0 (1:Int) (0:Int)) fun y1 =>
 bif (y1.2.1 != (0:Int)) then
  some ([],y1.2.1)
 else
  dO (kD F y1 F [] (0:Int))
   (fun e=>some e) fun v4 =>
  some (v4,(0:Int))
def iK (F:Nat) (a0:aC) (rec_ref3_Numbers:aC→(List Bool)→Option ((List Bool))):Nat→Int→(List Bool)→Option ((List Bool))
 | 0,_,_=>none
 | n+1,v1,v2 =>
  bif (decide (v1 < (a0.f4.length:Int))) then
   chk (0≤v1∧v1 < a0.f4.length) <|
   call (rec_ref3_Numbers (a0.f4.getD v1.toNat (aC.mk 0 0 [] [] [])) v2) fun y1 =>
   iK F a0 rec_ref3_Numbers n (IntKind.i64.wrap (v1+(1:Int))) y1
  else
   some v2
/-- printworks/printworksref3.Numbers -/
def lK (F:Nat) (rec_ref3_Numbers:aC→(List Bool)→Option ((List Bool))) (a0:aC) (c1:List Bool):Option ((List Bool)) :=
 call (dE ((bif (bif (a0.f0 == (5:Int)) then (decide (a0.f1 > (0:Int))) else false) then (decide (a0.f1 < (256:Int))) else false)) fun z1 =>
  bif z1 then
   chk ((0≤a0.f1∧a0.f1 < 256)∧a0.f1 < c1.length) <|
   some (c1.set a0.f1.toNat true)
  else
   some c1)
  fun v3 =>
 call (iK F a0 rec_ref3_Numbers F (0:Int) v3)
  fun v4 =>
 some v4
def gX (F:Nat):Nat→aC→(List Bool)→Option ((List Bool))
 | 0=>fun _ _=>none
 | n+1=>lK F (gX F n)
def vL (F:Nat) (a0:aC) (c1:List Bool):Option ((List Bool)):=gX F F a0 c1
def fE (F:Nat) (a0:bC):Nat→(List Bool)→(List Bool)→Int→Option (Out ((List Bool)×(List Bool)) Int)
 | 0,_,_,_=>none
 | n+1,v1,v2,v3 =>
  bif (decide (v3 < (a0.f1.length:Int))) then
   chk (0≤v3∧v3 < a0.f1.length) <|
   dE ((decide (((a0.f1.getD v3.toNat (aJ.mk 0 (aC.mk 0 0 [] [] []) [])).f0) > (255:Int)))) fun z1 =>
   dE ((bif (decide (((a0.f1.getD v3.toNat (aJ.mk 0 (aC.mk 0 0 [] [] []) [])).f0) < (1:Int))) then true else z1)) fun z2 =>
   bif z2 then
    some (.esc (3:Int))
   else
    chk ((((decide (v3 > (0:Int))) == true) && true)=true→0≤(IntKind.i64.wrap (v3 - (1:Int)))∧(IntKind.i64.wrap (v3 - (1:Int))) < a0.f1.length) <|
    dE ((a0.f1.getD (IntKind.i64.wrap (v3 - (1:Int))).toNat (aJ.mk 0 (aC.mk 0 0 [] [] []) [])).f0) fun z3 =>
    dE ((bif (decide (v3 > (0:Int))) then (decide (((a0.f1.getD v3.toNat (aJ.mk 0 (aC.mk 0 0 [] [] []) [])).f0)≤z3)) else false)) fun z4 =>
    bif z4 then
     some (.esc (18:Int))
    else
     call (qB F ((a0.f1.getD v3.toNat (aJ.mk 0 (aC.mk 0 0 [] [] []) [])).f1)) fun y1 =>
     bif (y1.2 != (0:Int)) then
      some (.esc y1.2)
     else
      dE ((decide ((((a0.f1.getD v3.toNat (aJ.mk 0 (aC.mk 0 0 [] [] []) [])).f2).length:Int) > (4096:Int)))) fun z5 =>
      bif z5 then
       some (.esc (2:Int))
      else
       chk ((0≤((a0.f1.getD v3.toNat (aJ.mk 0 (aC.mk 0 0 [] [] []) [])).f0)∧((a0.f1.getD v3.toNat (aJ.mk 0 (aC.mk 0 0 [] [] []) [])).f0) < 256)∧((a0.f1.getD v3.toNat (aJ.mk 0 (aC.mk 0 0 [] [] []) [])).f0) < v1.length) <|
       call (vL F ((a0.f1.getD v3.toNat (aJ.mk 0 (aC.mk 0 0 [] [] []) [])).f1) v2) fun y2 =>
       fE F a0 n (v1.set ((a0.f1.getD v3.toNat (aJ.mk 0 (aC.mk 0 0 [] [] []) [])).f0).toNat true) y2 (IntKind.i64.wrap (v3+(1:Int)))
  else
   some (.go (v1,v2))
def fD (F:Nat) (v4:List Bool) (v5:List Bool):Nat→Int→Option (Out Unit Int)
 | 0,_=>none
 | n+1,v6 =>
  bif (decide (v6 < (256:Int))) then
   chk ((0≤v6∧v6 < 256)∧v6 < v5.length) <|
   chk ((((v5.getD v6.toNat false) == true) && true)=true→(0≤v6∧v6 < 256)∧v6 < v4.length) <|
   bif (bif (v5.getD v6.toNat false) then (!(v4.getD v6.toNat false)) else false) then
    some (.esc (8:Int))
   else
    fD F v4 v5 n (IntKind.i64.wrap (v6+(1:Int)))
  else
   some (.go ())
def fC (F:Nat) (a0:bC):Nat→Int→Option (Out Unit Int)
 | 0,_=>none
 | n+1,v7 =>
  bif (decide (v7 < (a0.f1.length:Int))) then
   chk (0≤v7∧v7 < a0.f1.length) <|
   bif (((a0.f1.getD v7.toNat (aJ.mk 0 (aC.mk 0 0 [] [] []) [])).f0) == a0.f0) then
    bif ((((a0.f1.getD v7.toNat (aJ.mk 0 (aC.mk 0 0 [] [] []) [])).f1).f0) != (7:Int)) then
     some (.esc (14:Int))
    else
     some (.esc (0:Int))
   else
    fC F a0 n (IntKind.i64.wrap (v7+(1:Int)))
  else
   some (.go ())
/-- printworks/printworksref3.DocError -/
def pD (F:Nat) (a0:bC):Option Int :=
 bif (decide ((a0.f1.length:Int) > (64:Int))) then
  some (2:Int)
 else
  dO (fE F a0 F (List.replicate 256 false) (List.replicate 256 false) (0:Int))
   (fun e=>some e) fun (v4,v5) =>
  dO (fD F v4 v5 F (0:Int))
   (fun e=>some e) fun _ =>
  dO (fC F a0 F (0:Int))
   (fun e=>some e) fun _ =>
  some (8:Int)
/-- printworks/printworkslaw3.PagefileCheckMatchesReference -/
def dP (F:Nat) (a0:bC):Option Bool :=
 call (pF F) fun y1 =>
 call ((bif ((y1 == true) && true) then kJ F a0 else some 0)) fun y2 =>
 call ((bif ((y1 == true) && true) then pD F a0 else some 0)) fun y3 =>
 some (bif y1 then (y2 == y3) else false)
end Go.Vm.PgfG
