import Derived.Test.YtkoocklcgndanaaDoorVmC
import Derived.Test.YtkoocklcgndanaaDoorVmD
namespace Go.Vm.SubG
structure S_FontPoint where
 f0:Int
 f1:Int
 f2:Bool
deriving DecidableEq
def cS_FontPoint (x:S_FontPoint):List Dat:=(cI .i64) x.f0++(cI .i64) x.f1++cB x.f2
structure S_FontPart where
 f0:Int
 f1:Int
 f2:Int
deriving DecidableEq
def cS_FontPart (x:S_FontPart):List Dat:=(cI .i64) x.f0++(cI .i64) x.f1++(cI .i64) x.f2
structure S_FontGlyph where
 f0:Int
 f1:List (List S_FontPoint)
 f2:List S_FontPart
deriving DecidableEq
def cS_FontGlyph (x:S_FontGlyph):List Dat:=(cI .i64) x.f0++(cL 1 (cL 3 cS_FontPoint)) x.f1++(cL 3 cS_FontPart) x.f2
structure S_FontRange where
 f0:Int
 f1:Int
 f2:Int
deriving DecidableEq
def cS_FontRange (x:S_FontRange):List Dat:=(cI .i64) x.f0++(cI .i64) x.f1++(cI .i64) x.f2
structure S_FontPair where
 f0:Int
 f1:Int
 f2:Int
deriving DecidableEq
def cS_FontPair (x:S_FontPair):List Dat:=(cI .i64) x.f0++(cI .i64) x.f1++(cI .i64) x.f2
structure S_Font where
 f0:Int
 f1:List S_FontGlyph
 f2:List S_FontRange
 f3:List S_FontPair
deriving DecidableEq
def cS_Font (x:S_Font):List Dat:=(cI .i64) x.f0++(cL 3 cS_FontGlyph) x.f1++(cL 3 cS_FontRange) x.f2++(cL 3 cS_FontPair) x.f3
structure S_ParaGlyph where
 f0:Int
 f1:Int
 f2:Int
deriving DecidableEq
def cS_ParaGlyph (x:S_ParaGlyph):List Dat:=(cI .i64) x.f0++(cI .i64) x.f1++(cI .i64) x.f2
structure S_font_nest where
 f0:Int
 f1:Int
 f2:Int
deriving DecidableEq
def cS_font_nest (x:S_font_nest):List Dat:=(cI .i64) x.f0++(cI .i64) x.f1++(cI .i64) x.f2
def glob_filter_steps:List Int:=[0,498536548,997073096,651767980,1994146192,1802195444,1303535960,1342533948,3988292384,4027552580,3604390888,3412177804,2607071920,2262029012,2685067896,3183342108]
/-- printworks/printworkslaw3.smallFont -/
def law3_smallFont (F:Nat)  : Option S_Font :=
 some (S_Font.mk (16:Int) ([(S_FontGlyph.mk (4:Int) [] []),(S_FontGlyph.mk (10:Int) ([[(S_FontPoint.mk 0 0 true),(S_FontPoint.mk (8:Int) 0 true),(S_FontPoint.mk (8:Int) (8:Int) false)]]) []),(S_FontGlyph.mk (6:Int) [] ([(S_FontPart.mk (1:Int) (5:Int) 0)]))]) ([(S_FontRange.mk (97:Int) (98:Int) (1:Int))]) ([(S_FontPair.mk (1:Int) (2:Int) (-2:Int))]))
/-- printworks/font.far -/
def font_far (F:Nat) (a0:Int) (a1:Int):Option Bool :=
 some (bif (decide (a0 < (IntKind.i64.wrap (0 - a1)))) then true else (decide (a0 > a1)))
def font_contour_L0 (F:Nat) (a0:List S_FontPoint):Nat→Int→Option (Out Unit Int)
 | 0,_=>none
 | n+1,v1 =>
  bif (decide (v1 < (a0.length:Int))) then
   chk (0≤v1∧v1 < a0.length) <|
   call (font_far F ((a0.getD v1.toNat (S_FontPoint.mk 0 0 false)).f0) (2047:Int)) fun y1 =>
   call ((bif ((y1 == false) && true) then font_far F ((a0.getD v1.toNat (S_FontPoint.mk 0 0 false)).f1) (2047:Int) else some false)) fun y2 =>
   bif (bif y1 then true else y2) then
    some (.esc (3:Int))
   else
    lett ((bif (decide (v1 > (0:Int))) then (!((a0.getD v1.toNat (S_FontPoint.mk 0 0 false)).f2)) else false)) fun z1 =>
    chk (((z1 == true) && true)=true→0≤(IntKind.i64.wrap (v1 - (1:Int)))∧(IntKind.i64.wrap (v1 - (1:Int))) < a0.length) <|
    lett ((bif z1 then (!((a0.getD (IntKind.i64.wrap (v1 - (1:Int))).toNat (S_FontPoint.mk 0 0 false)).f2)) else false)) fun z2 =>
    bif z2 then
     some (.esc (4:Int))
    else
     font_contour_L0 F a0 n (IntKind.i64.wrap (v1+(1:Int)))
  else
   some (.go ())
/-- printworks/font.contour -/
def font_contour (F:Nat) (a0:List S_FontPoint):Option Int :=
 chk ((((decide ((a0.length:Int) < (3:Int))) == false) && true)=true→0≤(0:Int)∧(0:Int) < a0.length) <|
 lett ((bif (decide ((a0.length:Int) < (3:Int))) then true else (!((a0.getD (0:Int).toNat (S_FontPoint.mk 0 0 false)).f2)))) fun z3 =>
 bif z3 then
  some (4:Int)
 else
  bif (decide ((a0.length:Int) > (32:Int))) then
   some (2:Int)
  else
   callE (font_contour_L0 F a0 F (0:Int))
    (fun e=>some e) fun _ =>
   some (0:Int)
def font_glyph_L1 (F:Nat) (a0:S_FontGlyph):Nat→Int→Option (Out Unit Int)
 | 0,_=>none
 | n+1,v1 =>
  bif (decide (v1 < (a0.f1.length:Int))) then
   chk (0≤v1∧v1 < a0.f1.length) <|
   call (font_contour F (a0.f1.getD v1.toNat [])) fun y1 =>
   bif (y1 != (0:Int)) then
    some (.esc y1)
   else
    font_glyph_L1 F a0 n (IntKind.i64.wrap (v1+(1:Int)))
  else
   some (.go ())
def font_glyph_L3 (F:Nat) (a0:S_FontGlyph) (a1:Int):Nat→Int→Option (Out Unit Int)
 | 0,_=>none
 | n+1,v2 =>
  bif (decide (v2 < (a0.f2.length:Int))) then
   chk (0≤v2∧v2 < a0.f2.length) <|
   lett ((bif (decide (((a0.f2.getD v2.toNat (S_FontPart.mk 0 0 0)).f0) < (0:Int))) then true else (decide (((a0.f2.getD v2.toNat (S_FontPart.mk 0 0 0)).f0) ≥ a1)))) fun z1 =>
   bif z1 then
    some (.esc (8:Int))
   else
    call (font_far F ((a0.f2.getD v2.toNat (S_FontPart.mk 0 0 0)).f1) (2047:Int)) fun y2 =>
    call ((bif ((y2 == false) && true) then font_far F ((a0.f2.getD v2.toNat (S_FontPart.mk 0 0 0)).f2) (2047:Int) else some false)) fun y3 =>
    bif (bif y2 then true else y3) then
     some (.esc (3:Int))
    else
     font_glyph_L3 F a0 a1 n (IntKind.i64.wrap (v2+(1:Int)))
  else
   some (.go ())
/-- printworks/font.glyph -/
def font_glyph (F:Nat) (a0:S_FontGlyph) (a1:Int):Option Int :=
 bif (bif (decide (a0.f0 < (0:Int))) then true else (decide (a0.f0 > (2047:Int)))) then
  some (3:Int)
 else
  lett ((bif (decide ((a0.f1.length:Int) > (0:Int))) then (decide ((a0.f2.length:Int) > (0:Int))) else false)) fun z2 =>
  bif z2 then
   some (4:Int)
  else
   lett ((bif (decide ((a0.f1.length:Int) > (8:Int))) then true else (decide ((a0.f2.length:Int) > (4:Int))))) fun z3 =>
   bif z3 then
    some (2:Int)
   else
    callE (font_glyph_L1 F a0 F (0:Int))
     (fun e=>some e) fun _ =>
    callE (font_glyph_L3 F a0 a1 F (0:Int))
     (fun e=>some e) fun _ =>
    some (0:Int)
/-- cmp.isNaN[int] -/
def cmp_isNaN_int (F:Nat) (a0:Int):Option Bool :=
 some (a0 != a0)
/-- cmp.Compare[int] -/
def cmp_Compare_int (F:Nat) (a0:Int) (a1:Int):Option Int :=
 call (cmp_isNaN_int F a0) fun y1 =>
 call (cmp_isNaN_int F a1) fun y2 =>
 bif y1 then
  bif y2 then
   some (0:Int)
  else
   some (-1:Int)
 else
  bif y2 then
   some (1:Int)
  else
   bif (decide (a0 < a1)) then
    some (-1:Int)
   else
    bif (decide (a0 > a1)) then
     some (1:Int)
    else
     some (0:Int)
def cmp_Or_int_L0 (F:Nat) (a0:List Int):Nat→Int→Option (Out Unit Int)
 | 0,_=>none
 | n+1,v1 =>
  bif (decide (v1 < (a0.length:Int))) then
   chk (0≤v1∧v1 < a0.length) <|
   bif ((a0.getD v1.toNat 0) != (0:Int)) then
    some (.esc (a0.getD v1.toNat 0))
   else
    cmp_Or_int_L0 F a0 n (IntKind.i64.wrap (v1+(1:Int)))
  else
   some (.go ())
/-- cmp.Or[int] -/
def cmp_Or_int (F:Nat) (a0:List Int):Option Int :=
 callE (cmp_Or_int_L0 F a0 F (0:Int))
  (fun e=>some e) fun _ =>
 some (0:Int)
/-- printworks/font.pairs -/
def font_pairs (F:Nat) (a0:S_FontPair) (a1:S_FontPair):Option Int :=
 call (cmp_Compare_int F a0.f0 a1.f0) fun y1 =>
 call (cmp_Compare_int F a0.f1 a1.f1) fun y2 =>
 call (cmp_Or_int F ([y1,y2])) fun y3 =>
 some y3
def font_tables_L0 (F:Nat) (a0:S_Font):Nat→Int→Option (Out Unit Int)
 | 0,_=>none
 | n+1,v1 =>
  bif (decide (v1 < (a0.f2.length:Int))) then
   chk (0≤v1∧v1 < a0.f2.length) <|
   lett ((decide (((a0.f2.getD v1.toNat (S_FontRange.mk 0 0 0)).f1) < ((a0.f2.getD v1.toNat (S_FontRange.mk 0 0 0)).f0)))) fun z1 =>
   lett ((bif (bif (decide (((a0.f2.getD v1.toNat (S_FontRange.mk 0 0 0)).f0) < (0:Int))) then true else z1) then true else (decide (((a0.f2.getD v1.toNat (S_FontRange.mk 0 0 0)).f1) > (1114111:Int))))) fun z2 =>
   bif z2 then
    some (.esc (3:Int))
   else
    lett ((bif (decide (((a0.f2.getD v1.toNat (S_FontRange.mk 0 0 0)).f2) < (0:Int))) then true else (decide (((a0.f2.getD v1.toNat (S_FontRange.mk 0 0 0)).f2) ≥ (a0.f1.length:Int))))) fun z3 =>
    lett (IntKind.i64.wrap (((a0.f2.getD v1.toNat (S_FontRange.mk 0 0 0)).f2)+((a0.f2.getD v1.toNat (S_FontRange.mk 0 0 0)).f1))) fun z4 =>
    lett ((decide ((IntKind.i64.wrap (z4 - ((a0.f2.getD v1.toNat (S_FontRange.mk 0 0 0)).f0))) ≥ (a0.f1.length:Int)))) fun z5 =>
    bif (bif z3 then true else z5) then
     some (.esc (8:Int))
    else
     chk ((((decide (v1 > (0:Int))) == true) && true)=true→0≤(IntKind.i64.wrap (v1 - (1:Int)))∧(IntKind.i64.wrap (v1 - (1:Int))) < a0.f2.length) <|
     lett ((decide (((a0.f2.getD v1.toNat (S_FontRange.mk 0 0 0)).f0)≤((a0.f2.getD (IntKind.i64.wrap (v1 - (1:Int))).toNat (S_FontRange.mk 0 0 0)).f1)))) fun z6 =>
     bif (bif (decide (v1 > (0:Int))) then z6 else false) then
      some (.esc (18:Int))
     else
      font_tables_L0 F a0 n (IntKind.i64.wrap (v1+(1:Int)))
  else
   some (.go ())
def font_tables_L3 (F:Nat) (a0:S_Font):Nat→Int→Option (Out Unit Int)
 | 0,_=>none
 | n+1,v2 =>
  bif (decide (v2 < (a0.f3.length:Int))) then
   chk (0≤v2∧v2 < a0.f3.length) <|
   lett ((bif (decide (((a0.f3.getD v2.toNat (S_FontPair.mk 0 0 0)).f0) < (0:Int))) then true else (decide (((a0.f3.getD v2.toNat (S_FontPair.mk 0 0 0)).f0) ≥ (a0.f1.length:Int))))) fun z7 =>
   lett ((bif (bif z7 then true else (decide (((a0.f3.getD v2.toNat (S_FontPair.mk 0 0 0)).f1) < (0:Int)))) then true else (decide (((a0.f3.getD v2.toNat (S_FontPair.mk 0 0 0)).f1) ≥ (a0.f1.length:Int))))) fun z8 =>
   bif z8 then
    some (.esc (8:Int))
   else
    call ((bif (((((a0.f3.getD v2.toNat (S_FontPair.mk 0 0 0)).f2) == (0:Int)) == false) && true) then font_far F ((a0.f3.getD v2.toNat (S_FontPair.mk 0 0 0)).f2) (2047:Int) else some false)) fun y1 =>
    bif (bif (((a0.f3.getD v2.toNat (S_FontPair.mk 0 0 0)).f2) == (0:Int)) then true else y1) then
     some (.esc (3:Int))
    else
     chk ((((decide (v2 > (0:Int))) == true) && true)=true→0≤(IntKind.i64.wrap (v2 - (1:Int)))∧(IntKind.i64.wrap (v2 - (1:Int))) < a0.f3.length) <|
     call ((bif (((decide (v2 > (0:Int))) == true) && true) then font_pairs F (a0.f3.getD (IntKind.i64.wrap (v2 - (1:Int))).toNat (S_FontPair.mk 0 0 0)) (a0.f3.getD v2.toNat (S_FontPair.mk 0 0 0)) else some 0)) fun y2 =>
     bif (bif (decide (v2 > (0:Int))) then (decide (y2 ≥ (0:Int))) else false) then
      some (.esc (18:Int))
     else
      font_tables_L3 F a0 n (IntKind.i64.wrap (v2+(1:Int)))
  else
   some (.go ())
/-- printworks/font.tables -/
def font_tables (F:Nat) (a0:S_Font):Option Int :=
 callE (font_tables_L0 F a0 F (0:Int))
  (fun e=>some e) fun _ =>
 callE (font_tables_L3 F a0 F (0:Int))
  (fun e=>some e) fun _ =>
 some (0:Int)
def font_visit_L1 (F:Nat) (a0:S_Font) (a1:Int):Nat→Int→Int→Option Int
 | 0,_,_=>none
 | n+1,v1,v2 =>
  bif (decide (v2 < (((a0.f1.getD a1.toNat (S_FontGlyph.mk 0 [] [])).f1).length:Int))) then
   chk (0≤v2∧v2 < ((a0.f1.getD a1.toNat (S_FontGlyph.mk 0 [] [])).f1).length) <|
   lett (IntKind.i64.wrap (v1+((((a0.f1.getD a1.toNat (S_FontGlyph.mk 0 [] [])).f1).getD v2.toNat []).length:Int))) fun z1 =>
   font_visit_L1 F a0 a1 n z1 (IntKind.i64.wrap (v2+(1:Int)))
  else
   some v1
def font_visit_L3 (F:Nat) (a0:S_Font) (a1:Int) (rec_font_visit:S_Font→Int→(List S_font_nest)→Option (Int×(List S_font_nest))):Nat→Int→Int→Int→(List S_font_nest)→Option (Out (Int×Int×(List S_font_nest)) (Int×(List S_font_nest)))
 | 0,_,_,_,_=>none
 | n+1,v3,v4,v5,v6 =>
  bif (decide (v5 < (((a0.f1.getD a1.toNat (S_FontGlyph.mk 0 [] [])).f2).length:Int))) then
   chk (0≤v5∧v5 < ((a0.f1.getD a1.toNat (S_FontGlyph.mk 0 [] [])).f2).length) <|
   call (rec_font_visit a0 ((((a0.f1.getD a1.toNat (S_FontGlyph.mk 0 [] [])).f2).getD v5.toNat (S_FontPart.mk 0 0 0)).f0) v6) fun y1 =>
   bif (y1.1 != (0:Int)) then
    some (.esc (y1.1,y1.2))
   else
    chk (0≤((((a0.f1.getD a1.toNat (S_FontGlyph.mk 0 [] [])).f2).getD v5.toNat (S_FontPart.mk 0 0 0)).f0)∧((((a0.f1.getD a1.toNat (S_FontGlyph.mk 0 [] [])).f2).getD v5.toNat (S_FontPart.mk 0 0 0)).f0) < y1.2.length) <|
    lett ((y1.2.getD ((((a0.f1.getD a1.toNat (S_FontGlyph.mk 0 [] [])).f2).getD v5.toNat (S_FontPart.mk 0 0 0)).f0).toNat (S_font_nest.mk 0 0 0)).f1) fun z2 =>
    lett ((if v3 < (IntKind.i64.wrap (z2+(1:Int))) then (IntKind.i64.wrap (z2+(1:Int))) else v3)) fun z3 =>
    chk (0≤((((a0.f1.getD a1.toNat (S_FontGlyph.mk 0 [] [])).f2).getD v5.toNat (S_FontPart.mk 0 0 0)).f0)∧((((a0.f1.getD a1.toNat (S_FontGlyph.mk 0 [] [])).f2).getD v5.toNat (S_FontPart.mk 0 0 0)).f0) < y1.2.length) <|
    lett ((y1.2.getD ((((a0.f1.getD a1.toNat (S_FontGlyph.mk 0 [] [])).f2).getD v5.toNat (S_FontPart.mk 0 0 0)).f0).toNat (S_font_nest.mk 0 0 0)).f2) fun z4 =>
    lett ((if (1048576:Int) < (IntKind.i64.wrap (v4+z4)) then (1048576:Int) else (IntKind.i64.wrap (v4+z4)))) fun z5 =>
    font_visit_L3 F a0 a1 rec_font_visit n z3 z5 (IntKind.i64.wrap (v5+(1:Int))) y1.2
  else
   some (.go (v3,v4,v6))
/-- printworks/font.visit -/
def font_visit_body (F:Nat) (rec_font_visit:S_Font→Int→(List S_font_nest)→Option (Int×(List S_font_nest))) (a0:S_Font) (a1:Int) (c2:List S_font_nest):Option (Int×(List S_font_nest)) :=
 chk (0≤a1∧a1 < c2.length) <|
 bif (((c2.getD a1.toNat (S_font_nest.mk 0 0 0)).f0) == (1:Int)) then
  some ((13:Int),c2)
 else
  bif (((c2.getD a1.toNat (S_font_nest.mk 0 0 0)).f0) == (2:Int)) then
   some ((0:Int),c2)
  else
   chk (0≤a1∧a1 < c2.length) <|
   chk (0≤a1∧a1 < a0.f1.length) <|
   call (font_visit_L1 F a0 a1 F 0 (0:Int))
    fun v7 =>
   chk (0≤a1∧a1 < a0.f1.length) <|
   callE (font_visit_L3 F a0 a1 rec_font_visit F (1:Int) v7 (0:Int) (c2.set a1.toNat (S_font_nest.mk (1:Int) ((c2.getD a1.toNat (S_font_nest.mk 0 0 0)).f1) ((c2.getD a1.toNat (S_font_nest.mk 0 0 0)).f2))))
    (fun e=>some e) fun (v8,v9,v10) =>
   chk (0≤a1∧a1 < v10.length) <|
   some ((0:Int),(v10.set a1.toNat (S_font_nest.mk (2:Int) v8 v9)))
def font_visit_fuel (F:Nat):Nat→S_Font→Int→(List S_font_nest)→Option (Int×(List S_font_nest))
 | 0=>fun _ _ _=>none
 | n+1=>font_visit_body F (font_visit_fuel F n)
def font_visit (F:Nat) (a0:S_Font) (a1:Int) (c2:List S_font_nest):Option (Int×(List S_font_nest)):=font_visit_fuel F F a0 a1 c2
/-- (*strings.Builder).WriteByte -/
def strings_Builder_WriteByte (F:Nat) (a0:Int) (c1:List UInt8):Option (Unit×(List UInt8)) :=
 chk (0≤a0∧a0 < 256) <|
 chk (c1.length+([(UInt8.ofNat a0.toNat)]).length≤4294967296) <|
 some ((),(c1++([(UInt8.ofNat a0.toNat)])))
def font_packer_put_L2 (F:Nat) (a1:List Int) (v1:Int):Nat→Int→(List UInt8)→Option ((List UInt8))
 | 0,_,_=>none
 | n+1,v2,v3 =>
  bif (decide (v2 ≥ (0:Int))) then
   chk (0≤(IntKind.i64.wrap ((8:Int) * v2))) <|
   lett (((a1.getD v1.toNat 0).fdiv (2 ^ (min (IntKind.i64.wrap ((8:Int) * v2)).toNat IntKind.i64.bits)))) fun z1 =>
   call (strings_Builder_WriteByte F (IntKind.u8.wrap z1) v3) fun y1 =>
   font_packer_put_L2 F a1 v1 n (IntKind.i64.wrap (v2 - (1:Int))) y1.2
  else
   some v3
def font_packer_put_L0 (F:Nat) (a0:Int) (a1:List Int):Nat→Int→(List UInt8)→Option ((List UInt8))
 | 0,_,_=>none
 | n+1,v1,v4 =>
  bif (decide (v1 < (a1.length:Int))) then
   chk (0≤v1∧v1 < a1.length) <|
   call (font_packer_put_L2 F a1 v1 F (IntKind.i64.wrap (a0 - (1:Int))) v4)
    fun v5 =>
   font_packer_put_L0 F a0 a1 n (IntKind.i64.wrap (v1+(1:Int))) v5
  else
   some v4
/-- (*printworks/font.packer).put -/
def font_packer_put (F:Nat) (a0:Int) (a1:List Int) (c2:List UInt8):Option ((List UInt8)) :=
 call (font_packer_put_L0 F a0 a1 F (0:Int) c2)
  fun v6 =>
 some v6
/-- (*strings.Builder).WriteString -/
def strings_Builder_WriteString (F:Nat) (a0:List UInt8) (c1:List UInt8):Option (Int×Unit×(List UInt8)) :=
 chk (c1.length+a0.length≤4294967296) <|
 some ((a0.length:Int),(),(c1++a0))
def filter_Sum_L0 (F:Nat) (a0:List UInt8):Nat→Int→Int→Option Int
 | 0,_,_=>none
 | n+1,v1,v2 =>
  bif (decide (v2 < (a0.length:Int))) then
   chk (0≤v2∧v2 < a0.length) <|
   lett (IntKind.u32.wrap ((BitVec.ofInt IntKind.u32.bits v1 ^^^ BitVec.ofInt IntKind.u32.bits (IntKind.u32.wrap ((a0.getD v2.toNat 0).toNat:Int))).toNat:Int)) fun z1 =>
   lett (IntKind.u32.wrap ((BitVec.ofInt IntKind.u32.bits z1 &&& BitVec.ofInt IntKind.u32.bits (15:Int)).toNat:Int)) fun z2 =>
   chk (0≤z2∧z2 < 16) <|
   lett (IntKind.u32.wrap ((BitVec.ofInt IntKind.u32.bits (z1.fdiv (2 ^ (min (4:Int).toNat IntKind.u32.bits))) ^^^ BitVec.ofInt IntKind.u32.bits (glob_filter_steps.getD z2.toNat 0)).toNat:Int)) fun z3 =>
   lett (IntKind.u32.wrap ((BitVec.ofInt IntKind.u32.bits z3 &&& BitVec.ofInt IntKind.u32.bits (15:Int)).toNat:Int)) fun z4 =>
   chk (0≤z4∧z4 < 16) <|
   lett (IntKind.u32.wrap ((BitVec.ofInt IntKind.u32.bits (z3.fdiv (2 ^ (min (4:Int).toNat IntKind.u32.bits))) ^^^ BitVec.ofInt IntKind.u32.bits (glob_filter_steps.getD z4.toNat 0)).toNat:Int)) fun z5 =>
   filter_Sum_L0 F a0 n z5 (IntKind.i64.wrap (v2+(1:Int)))
  else
   some v1
/-- printworks/filter.Sum -/
def filter_Sum (F:Nat) (a0:List UInt8):Option Int :=
 call (filter_Sum_L0 F a0 F (4294967295:Int) (0:Int))
  fun v3 =>
 lett (IntKind.u32.wrap (((BitVec.ofInt IntKind.u32.bits (4294967295)) ^^^ (BitVec.ofInt IntKind.u32.bits v3)).toNat:Int)) fun z6 =>
 some z6
def font_written_L4 (F:Nat) (a0:S_Font) (v1:Int) (v2:Int):Nat→(List UInt8)→Int→Option ((List UInt8))
 | 0,_,_=>none
 | n+1,v3,v4 =>
  lett ((decide (v4 < ((((a0.f1.getD v1.toNat (S_FontGlyph.mk 0 [] [])).f1).getD v2.toNat []).length:Int)))) fun z1 =>
  bif z1 then
   chk (0≤v4∧v4 < (((a0.f1.getD v1.toNat (S_FontGlyph.mk 0 [] [])).f1).getD v2.toNat []).length) <|
   call (lett (((((a0.f1.getD v1.toNat (S_FontGlyph.mk 0 [] [])).f1).getD v2.toNat []).getD v4.toNat (S_FontPoint.mk 0 0 false)).f2) fun z2 =>
    bif z2 then
     some (1:Int)
    else
     some (0:Int))
    fun v5 =>
   call (font_packer_put F (1:Int) ([v5]) v3) fun y1 =>
   lett (((((a0.f1.getD v1.toNat (S_FontGlyph.mk 0 [] [])).f1).getD v2.toNat []).getD v4.toNat (S_FontPoint.mk 0 0 false)).f0) fun z3 =>
   lett (((((a0.f1.getD v1.toNat (S_FontGlyph.mk 0 [] [])).f1).getD v2.toNat []).getD v4.toNat (S_FontPoint.mk 0 0 false)).f1) fun z4 =>
   call (font_packer_put F (2:Int) ([z3,z4]) y1) fun y2 =>
   font_written_L4 F a0 v1 v2 n y2 (IntKind.i64.wrap (v4+(1:Int)))
  else
   some v3
def font_written_L2 (F:Nat) (a0:S_Font) (v1:Int):Nat→(List UInt8)→Int→Option ((List UInt8))
 | 0,_,_=>none
 | n+1,v6,v2 =>
  bif (decide (v2 < (((a0.f1.getD v1.toNat (S_FontGlyph.mk 0 [] [])).f1).length:Int))) then
   chk (0≤v2∧v2 < ((a0.f1.getD v1.toNat (S_FontGlyph.mk 0 [] [])).f1).length) <|
   call (font_packer_put F (1:Int) ([((((a0.f1.getD v1.toNat (S_FontGlyph.mk 0 [] [])).f1).getD v2.toNat []).length:Int)]) v6) fun y3 =>
   call (font_written_L4 F a0 v1 v2 F y3 (0:Int))
    fun v7 =>
   font_written_L2 F a0 v1 n v7 (IntKind.i64.wrap (v2+(1:Int)))
  else
   some v6
def font_written_L6 (F:Nat) (a0:S_Font) (v1:Int):Nat→(List UInt8)→Int→Option ((List UInt8))
 | 0,_,_=>none
 | n+1,v8,v9 =>
  bif (decide (v9 < (((a0.f1.getD v1.toNat (S_FontGlyph.mk 0 [] [])).f2).length:Int))) then
   chk (0≤v9∧v9 < ((a0.f1.getD v1.toNat (S_FontGlyph.mk 0 [] [])).f2).length) <|
   call (font_packer_put F (1:Int) ([(((a0.f1.getD v1.toNat (S_FontGlyph.mk 0 [] [])).f2).getD v9.toNat (S_FontPart.mk 0 0 0)).f0]) v8) fun y4 =>
   call (font_packer_put F (2:Int) ([(((a0.f1.getD v1.toNat (S_FontGlyph.mk 0 [] [])).f2).getD v9.toNat (S_FontPart.mk 0 0 0)).f1,(((a0.f1.getD v1.toNat (S_FontGlyph.mk 0 [] [])).f2).getD v9.toNat (S_FontPart.mk 0 0 0)).f2]) y4) fun y5 =>
   font_written_L6 F a0 v1 n y5 (IntKind.i64.wrap (v9+(1:Int)))
  else
   some v8
def font_written_L0 (F:Nat) (a0:S_Font):Nat→(List UInt8)→Int→Option ((List UInt8))
 | 0,_,_=>none
 | n+1,v10,v1 =>
  bif (decide (v1 < (a0.f1.length:Int))) then
   chk (0≤v1∧v1 < a0.f1.length) <|
   call (font_packer_put F (2:Int) ([(a0.f1.getD v1.toNat (S_FontGlyph.mk 0 [] [])).f0]) v10) fun y6 =>
   call (font_packer_put F (1:Int) ([(((a0.f1.getD v1.toNat (S_FontGlyph.mk 0 [] [])).f1).length:Int),(((a0.f1.getD v1.toNat (S_FontGlyph.mk 0 [] [])).f2).length:Int)]) y6) fun y7 =>
   call (font_written_L2 F a0 v1 F y7 (0:Int))
    fun v11 =>
   call (font_written_L6 F a0 v1 F v11 (0:Int))
    fun v12 =>
   font_written_L0 F a0 n v12 (IntKind.i64.wrap (v1+(1:Int)))
  else
   some v10
def font_written_L8 (F:Nat) (a0:S_Font):Nat→(List UInt8)→Int→Option ((List UInt8))
 | 0,_,_=>none
 | n+1,v13,v14 =>
  bif (decide (v14 < (a0.f2.length:Int))) then
   chk (0≤v14∧v14 < a0.f2.length) <|
   call (font_packer_put F (3:Int) ([(a0.f2.getD v14.toNat (S_FontRange.mk 0 0 0)).f0,(a0.f2.getD v14.toNat (S_FontRange.mk 0 0 0)).f1]) v13) fun y8 =>
   call (font_packer_put F (1:Int) ([(a0.f2.getD v14.toNat (S_FontRange.mk 0 0 0)).f2]) y8) fun y9 =>
   font_written_L8 F a0 n y9 (IntKind.i64.wrap (v14+(1:Int)))
  else
   some v13
def font_written_L10 (F:Nat) (a0:S_Font):Nat→(List UInt8)→Int→Option ((List UInt8))
 | 0,_,_=>none
 | n+1,v15,v16 =>
  bif (decide (v16 < (a0.f3.length:Int))) then
   chk (0≤v16∧v16 < a0.f3.length) <|
   call (font_packer_put F (1:Int) ([(a0.f3.getD v16.toNat (S_FontPair.mk 0 0 0)).f0,(a0.f3.getD v16.toNat (S_FontPair.mk 0 0 0)).f1]) v15) fun y10 =>
   call (font_packer_put F (2:Int) ([(a0.f3.getD v16.toNat (S_FontPair.mk 0 0 0)).f2]) y10) fun y11 =>
   font_written_L10 F a0 n y11 (IntKind.i64.wrap (v16+(1:Int)))
  else
   some v15
def font_written_L12 (F:Nat) (v17:List UInt8) (v18:List UInt8) (v19:List UInt8):Nat→(List UInt8)→Int→Option ((List UInt8))
 | 0,_,_=>none
 | n+1,v20,v21 =>
  bif (decide (v21 < (([v17,v18,v19]).length:Int))) then
   chk (0≤v21∧v21 < ([v17,v18,v19]).length) <|
   call (font_packer_put F (2:Int) ([((([v17,v18,v19]).getD v21.toNat []).length:Int)]) v20) fun y12 =>
   call (filter_Sum F (([v17,v18,v19]).getD v21.toNat [])) fun y13 =>
   call (font_packer_put F (4:Int) ([IntKind.i64.wrap y13]) y12) fun y14 =>
   call (strings_Builder_WriteString F (([v17,v18,v19]).getD v21.toNat []) y14) fun y15 =>
   font_written_L12 F v17 v18 v19 n y15.2.2 (IntKind.i64.wrap (v21+(1:Int)))
  else
   some v20
/-- printworks/font.written -/
def font_written (F:Nat) (a0:S_Font):Option ((List UInt8)) :=
 call (font_written_L0 F a0 F [] (0:Int))
  fun v17 =>
 call (font_written_L8 F a0 F [] (0:Int))
  fun v18 =>
 call (font_written_L10 F a0 F [] (0:Int))
  fun v19 =>
 call (strings_Builder_WriteString F ([102,111,110,116]:List UInt8) []) fun y16 =>
 call (font_packer_put F (2:Int) ([a0.f0]) y16.2.2) fun y17 =>
 call (font_packer_put F (1:Int) ([(a0.f1.length:Int),(a0.f2.length:Int),(a0.f3.length:Int)]) y17) fun y18 =>
 chk (v17.length≤9223372036854775807) <|
 chk (v18.length≤9223372036854775807) <|
 chk (v19.length≤9223372036854775807) <|
 call (font_written_L12 F v17 v18 v19 F y18 (0:Int))
  fun v22 =>
 chk (v22.length≤9223372036854775807) <|
 some v22
def font_Check_L1 (F:Nat) (a0:S_Font):Nat→Int→Option (Out Unit Int)
 | 0,_=>none
 | n+1,v1 =>
  bif (decide (v1 < (a0.f1.length:Int))) then
   chk (0≤v1∧v1 < a0.f1.length) <|
   call (font_glyph F (a0.f1.getD v1.toNat (S_FontGlyph.mk 0 [] [])) (a0.f1.length:Int)) fun y1 =>
   bif (y1 != (0:Int)) then
    some (.esc y1)
   else
    font_Check_L1 F a0 n (IntKind.i64.wrap (v1+(1:Int)))
  else
   some (.go ())
def font_Check_L3 (F:Nat) (a0:S_Font):Nat→(List S_font_nest)→Int→Option (Out ((List S_font_nest)) Int)
 | 0,_,_=>none
 | n+1,v2,v3 =>
  bif (decide (v3 < (a0.f1.length:Int))) then
   call (font_visit F a0 v3 v2) fun y2 =>
   bif (y2.1 != (0:Int)) then
    some (.esc y2.1)
   else
    font_Check_L3 F a0 n y2.2 (IntKind.i64.wrap (v3+(1:Int)))
  else
   some (.go v2)
def font_Check_L5 (F:Nat) (v4:List S_font_nest):Nat→Int→Option (Out Unit Int)
 | 0,_=>none
 | n+1,v5 =>
  bif (decide (v5 < (v4.length:Int))) then
   chk (0≤v5∧v5 < v4.length) <|
   bif (decide (((v4.getD v5.toNat (S_font_nest.mk 0 0 0)).f1) > (4:Int))) then
    some (.esc (15:Int))
   else
    bif (decide (((v4.getD v5.toNat (S_font_nest.mk 0 0 0)).f2) > (512:Int))) then
     some (.esc (2:Int))
    else
     font_Check_L5 F v4 n (IntKind.i64.wrap (v5+(1:Int)))
  else
   some (.go ())
/-- printworks/font.Check -/
def font_Check (F:Nat) (a0:S_Font):Option Int :=
 bif (bif (decide (a0.f0 < (16:Int))) then true else (decide (a0.f0 > (1024:Int)))) then
  some (3:Int)
 else
  bif ((a0.f1.length:Int) == (0:Int)) then
   some (8:Int)
  else
   lett ((bif (decide ((a0.f1.length:Int) > (128:Int))) then true else (decide ((a0.f2.length:Int) > (64:Int))))) fun z1 =>
   bif (bif z1 then true else (decide ((a0.f3.length:Int) > (128:Int)))) then
    some (2:Int)
   else
    callE (font_Check_L1 F a0 F (0:Int))
     (fun e=>some e) fun _ =>
    call (font_tables F a0) fun y3 =>
    bif (y3 != (0:Int)) then
     some y3
    else
     chk (0≤(a0.f1.length:Int)∧(a0.f1.length:Int)≤(a0.f1.length:Int)∧(a0.f1.length:Int)≤9223372036854775807∧((24:Nat):Int) * (a0.f1.length:Int)≤281474976710656) <|
     callE (font_Check_L3 F a0 F (List.replicate (a0.f1.length:Int).toNat (S_font_nest.mk 0 0 0)) (0:Int))
      (fun e=>some e) fun v4 =>
     callE (font_Check_L5 F v4 F (0:Int))
      (fun e=>some e) fun _ =>
     call (font_written F a0) fun y4 =>
     bif (decide ((y4.length:Int) > (4096:Int))) then
      some (2:Int)
     else
      some (0:Int)
/-- printworks/font.find$1 -/
def font_find_c1 (F:Nat) (a0:S_FontRange) (a1:Int):Option Int :=
 call (cmp_Compare_int F a0.f0 a1) fun y1 =>
 some y1
def slices_BinarySearchFunc_int_L0 (F:Nat) (a0:List S_FontRange) (a1:Int):Nat→Int→Int→Option Int
 | 0,_,_=>none
 | n+1,v1,v2 =>
  bif (decide (v1 < v2)) then
   lett (((IntKind.u64.wrap (IntKind.i64.wrap (v1+v2))).fdiv (2 ^ (min (1:Int).toNat IntKind.u64.bits)))) fun z1 =>
   chk (0≤(IntKind.i64.wrap z1)∧(IntKind.i64.wrap z1) < a0.length) <|
   call (font_find_c1 F (a0.getD (IntKind.i64.wrap z1).toNat (S_FontRange.mk 0 0 0)) a1) fun y1 =>
   bif (decide (y1 < (0:Int))) then
    slices_BinarySearchFunc_int_L0 F a0 a1 n (IntKind.i64.wrap ((IntKind.i64.wrap z1)+(1:Int))) v2
   else
    slices_BinarySearchFunc_int_L0 F a0 a1 n v1 (IntKind.i64.wrap z1)
  else
   some v1
/-- slices.BinarySearchFunc[[]printworks/api.FontRange,printworks/api.FontRange,int] -/
def slices_BinarySearchFunc_int (F:Nat) (a0:List S_FontRange) (a1:Int):Option (Int×Bool) :=
 call (slices_BinarySearchFunc_int_L0 F a0 a1 F (0:Int) (a0.length:Int))
  fun v3 =>
 chk ((((decide (v3 < (a0.length:Int))) == true) && true)=true→0≤v3∧v3 < a0.length) <|
 call ((bif (((decide (v3 < (a0.length:Int))) == true) && true) then font_find_c1 F (a0.getD v3.toNat (S_FontRange.mk 0 0 0)) a1 else some 0)) fun y2 =>
 some (v3,(bif (decide (v3 < (a0.length:Int))) then (y2 == (0:Int)) else false))
/-- printworks/font.find -/
def font_find (F:Nat) (a0:S_Font) (a1:Int):Option Int :=
 call (slices_BinarySearchFunc_int F a0.f2 a1) fun y1 =>
 call (bif (!y1.2) then
   some (IntKind.i64.wrap (y1.1 - (1:Int)))
  else
   some y1.1)
  fun v1 =>
 chk ((((decide (v1 < (0:Int))) == false) && true)=true→0≤v1∧v1 < a0.f2.length) <|
 lett ((bif (decide (v1 < (0:Int))) then true else (decide (a1 > ((a0.f2.getD v1.toNat (S_FontRange.mk 0 0 0)).f1))))) fun z1 =>
 bif z1 then
  some (0:Int)
 else
  chk (0≤v1∧v1 < a0.f2.length) <|
  chk (0≤v1∧v1 < a0.f2.length) <|
  lett (IntKind.i64.wrap ((IntKind.i64.wrap (((a0.f2.getD v1.toNat (S_FontRange.mk 0 0 0)).f2)+a1)) - ((a0.f2.getD v1.toNat (S_FontRange.mk 0 0 0)).f0))) fun z2 =>
  some z2
def slices_BinarySearchFunc_FontPair_L0 (F:Nat) (a0:List S_FontPair) (a1:S_FontPair):Nat→Int→Int→Option Int
 | 0,_,_=>none
 | n+1,v1,v2 =>
  bif (decide (v1 < v2)) then
   lett (((IntKind.u64.wrap (IntKind.i64.wrap (v1+v2))).fdiv (2 ^ (min (1:Int).toNat IntKind.u64.bits)))) fun z1 =>
   chk (0≤(IntKind.i64.wrap z1)∧(IntKind.i64.wrap z1) < a0.length) <|
   call (font_pairs F (a0.getD (IntKind.i64.wrap z1).toNat (S_FontPair.mk 0 0 0)) a1) fun y1 =>
   bif (decide (y1 < (0:Int))) then
    slices_BinarySearchFunc_FontPair_L0 F a0 a1 n (IntKind.i64.wrap ((IntKind.i64.wrap z1)+(1:Int))) v2
   else
    slices_BinarySearchFunc_FontPair_L0 F a0 a1 n v1 (IntKind.i64.wrap z1)
  else
   some v1
/-- slices.BinarySearchFunc[[]printworks/api.FontPair,printworks/api.FontPair,printworks/api.FontPair] -/
def slices_BinarySearchFunc_FontPair (F:Nat) (a0:List S_FontPair) (a1:S_FontPair):Option (Int×Bool) :=
 call (slices_BinarySearchFunc_FontPair_L0 F a0 a1 F (0:Int) (a0.length:Int))
  fun v3 =>
 chk ((((decide (v3 < (a0.length:Int))) == true) && true)=true→0≤v3∧v3 < a0.length) <|
 call ((bif (((decide (v3 < (a0.length:Int))) == true) && true) then font_pairs F (a0.getD v3.toNat (S_FontPair.mk 0 0 0)) a1 else some 0)) fun y2 =>
 some (v3,(bif (decide (v3 < (a0.length:Int))) then (y2 == (0:Int)) else false))
/-- printworks/font.between -/
def font_between (F:Nat) (a0:S_Font) (a1:Int) (a2:Int):Option Int :=
 call (slices_BinarySearchFunc_FontPair F a0.f3 (S_FontPair.mk a1 a2 0)) fun y1 =>
 bif (!y1.2) then
  some (0:Int)
 else
  chk (0≤y1.1∧y1.1 < a0.f3.length) <|
  some ((a0.f3.getD y1.1.toNat (S_FontPair.mk 0 0 0)).f2)
def font_Places_L0 (F:Nat) (a0:S_Font) (a1:List Int):Nat→(List S_ParaGlyph)→Int→Int→Option ((List S_ParaGlyph)×Int)
 | 0,_,_,_=>none
 | n+1,v1,v2,v3 =>
  bif (decide (v3 < (a1.length:Int))) then
   chk (0≤v3∧v3 < a1.length) <|
   call (font_find F a0 (a1.getD v3.toNat 0)) fun y1 =>
   call (bif (decide (v3 > (0:Int))) then
     chk (0≤(IntKind.i64.wrap (v3 - (1:Int)))∧(IntKind.i64.wrap (v3 - (1:Int))) < v1.length) <|
     call (font_between F a0 ((v1.getD (IntKind.i64.wrap (v3 - (1:Int))).toNat (S_ParaGlyph.mk 0 0 0)).f0) y1) fun y2 =>
     some (IntKind.i64.wrap (v2+y2))
    else
     some v2)
    fun v4 =>
   chk (v1.length+([(S_ParaGlyph.mk y1 v4 0)]).length≤4294967296) <|
   chk (0≤y1∧y1 < a0.f1.length) <|
   font_Places_L0 F a0 a1 n (v1++([(S_ParaGlyph.mk y1 v4 0)])) (IntKind.i64.wrap (v4+((a0.f1.getD y1.toNat (S_FontGlyph.mk 0 [] [])).f0))) (IntKind.i64.wrap (v3+(1:Int)))
  else
   some (v1,v2)
/-- printworks/font.Places -/
def font_Places (F:Nat) (a0:S_Font) (a1:List Int):Option ((List S_ParaGlyph)×Int×Int) :=
 call (font_Check F a0) fun y3 =>
 bif (y3 != (0:Int)) then
  some ([],(0:Int),y3)
 else
  bif (decide ((a1.length:Int) > (1024:Int))) then
   some ([],(0:Int),(2:Int))
  else
   call (font_Places_L0 F a0 a1 F [] (0:Int) (0:Int))
    fun (v5,v6) =>
   some (v5,v6,(0:Int))
def font_outline_L2 (F:Nat) (a0:S_Font) (a1:Int) (a2:Int) (a3:Int) (v1:Int):Nat→(List S_FontPoint)→Int→Option ((List S_FontPoint))
 | 0,_,_=>none
 | n+1,v2,v3 =>
  lett ((decide (v3 < ((((a0.f1.getD a1.toNat (S_FontGlyph.mk 0 [] [])).f1).getD v1.toNat []).length:Int)))) fun z1 =>
  bif z1 then
   chk (0≤v3∧v3 < (((a0.f1.getD a1.toNat (S_FontGlyph.mk 0 [] [])).f1).getD v1.toNat []).length) <|
   lett (((((a0.f1.getD a1.toNat (S_FontGlyph.mk 0 [] [])).f1).getD v1.toNat []).getD v3.toNat (S_FontPoint.mk 0 0 false)).f0) fun z2 =>
   lett (((((a0.f1.getD a1.toNat (S_FontGlyph.mk 0 [] [])).f1).getD v1.toNat []).getD v3.toNat (S_FontPoint.mk 0 0 false)).f1) fun z3 =>
   lett (((((a0.f1.getD a1.toNat (S_FontGlyph.mk 0 [] [])).f1).getD v1.toNat []).getD v3.toNat (S_FontPoint.mk 0 0 false)).f2) fun z4 =>
   chk (v2.length+([(S_FontPoint.mk (IntKind.i64.wrap (z2+a2)) (IntKind.i64.wrap (z3+a3)) z4)]).length≤4294967296) <|
   lett ((v2++([(S_FontPoint.mk (IntKind.i64.wrap (z2+a2)) (IntKind.i64.wrap (z3+a3)) z4)]))) fun l1 =>
   font_outline_L2 F a0 a1 a2 a3 v1 n l1 (IntKind.i64.wrap (v3+(1:Int)))
  else
   some v2
def font_outline_L0 (F:Nat) (a0:S_Font) (a1:Int) (a2:Int) (a3:Int):Nat→(List (List S_FontPoint))→Int→Option ((List (List S_FontPoint)))
 | 0,_,_=>none
 | n+1,v4,v1 =>
  bif (decide (v1 < (((a0.f1.getD a1.toNat (S_FontGlyph.mk 0 [] [])).f1).length:Int))) then
   chk (0≤v1∧v1 < ((a0.f1.getD a1.toNat (S_FontGlyph.mk 0 [] [])).f1).length) <|
   call (font_outline_L2 F a0 a1 a2 a3 v1 F [] (0:Int))
    fun v5 =>
   chk (v4.length+([v5]).length≤4294967296) <|
   font_outline_L0 F a0 a1 a2 a3 n (v4++([v5])) (IntKind.i64.wrap (v1+(1:Int)))
  else
   some v4
def font_outline_L4 (F:Nat) (a0:S_Font) (a1:Int) (a2:Int) (a3:Int) (rec_font_outline:S_Font→Int→Int→Int→(List (List S_FontPoint))→Option ((List (List S_FontPoint)))):Nat→(List (List S_FontPoint))→Int→Option ((List (List S_FontPoint)))
 | 0,_,_=>none
 | n+1,v6,v7 =>
  bif (decide (v7 < (((a0.f1.getD a1.toNat (S_FontGlyph.mk 0 [] [])).f2).length:Int))) then
   chk (0≤v7∧v7 < ((a0.f1.getD a1.toNat (S_FontGlyph.mk 0 [] [])).f2).length) <|
   lett (IntKind.i64.wrap (a2+((((a0.f1.getD a1.toNat (S_FontGlyph.mk 0 [] [])).f2).getD v7.toNat (S_FontPart.mk 0 0 0)).f1))) fun z5 =>
   lett (IntKind.i64.wrap (a3+((((a0.f1.getD a1.toNat (S_FontGlyph.mk 0 [] [])).f2).getD v7.toNat (S_FontPart.mk 0 0 0)).f2))) fun z6 =>
   call (rec_font_outline a0 ((((a0.f1.getD a1.toNat (S_FontGlyph.mk 0 [] [])).f2).getD v7.toNat (S_FontPart.mk 0 0 0)).f0) z5 z6 v6) fun y1 =>
   font_outline_L4 F a0 a1 a2 a3 rec_font_outline n y1 (IntKind.i64.wrap (v7+(1:Int)))
  else
   some v6
/-- printworks/font.outline -/
def font_outline_body (F:Nat) (rec_font_outline:S_Font→Int→Int→Int→(List (List S_FontPoint))→Option ((List (List S_FontPoint)))) (a0:S_Font) (a1:Int) (a2:Int) (a3:Int) (a4:List (List S_FontPoint)):Option ((List (List S_FontPoint))) :=
 chk (0≤a1∧a1 < a0.f1.length) <|
 call (font_outline_L0 F a0 a1 a2 a3 F a4 (0:Int))
  fun v8 =>
 chk (0≤a1∧a1 < a0.f1.length) <|
 call (font_outline_L4 F a0 a1 a2 a3 rec_font_outline F v8 (0:Int))
  fun v9 =>
 some v9
def font_outline_fuel (F:Nat):Nat→S_Font→Int→Int→Int→(List (List S_FontPoint))→Option ((List (List S_FontPoint)))
 | 0=>fun _ _ _ _ _=>none
 | n+1=>font_outline_body F (font_outline_fuel F n)
def font_outline (F:Nat) (a0:S_Font) (a1:Int) (a2:Int) (a3:Int) (a4:List (List S_FontPoint)):Option ((List (List S_FontPoint))):=font_outline_fuel F F a0 a1 a2 a3 a4
/-- printworks/font.Outline -/
def font_Outline (F:Nat) (a0:S_Font) (a1:Int):Option ((List (List S_FontPoint))×Int) :=
 call (font_Check F a0) fun y1 =>
 bif (y1 != (0:Int)) then
  some ([],y1)
 else
  bif (bif (decide (a1 < (0:Int))) then true else (decide (a1 ≥ (a0.f1.length:Int)))) then
   some ([],(8:Int))
  else
   call (font_outline F a0 a1 (0:Int) (0:Int) []) fun y2 =>
   some (y2,(0:Int))
/-- printworks/printworkslaw3.fontFact -/
def law3_fontFact (F:Nat)  : Option Bool :=
 call (law3_smallFont F) fun y1 =>
 call (font_Places F y1 ([(97:Int),(98:Int)])) fun y2 =>
 call (law3_smallFont F) fun y3 =>
 call (font_Outline F y3 (2:Int)) fun y4 =>
 lett ((bif (bif (y2.2.2 == (0:Int)) then (y4.2 == (0:Int)) else false) then (y2.2.1 == (14:Int)) else false)) fun z1 =>
 chk ((((bif z1 then ((y2.1.length:Int) == (2:Int)) else false) == true) && true)=true→0≤(1:Int)∧(1:Int) < y2.1.length) <|
 lett (((y2.1.getD (1:Int).toNat (S_ParaGlyph.mk 0 0 0)).f0 == (2:Int) && ((y2.1.getD (1:Int).toNat (S_ParaGlyph.mk 0 0 0)).f1 == (8:Int) && ((y2.1.getD (1:Int).toNat (S_ParaGlyph.mk 0 0 0)).f2 == 0 && true)))) fun z2 =>
 lett ((bif (bif (bif z1 then ((y2.1.length:Int) == (2:Int)) else false) then z2 else false) then ((y4.1.length:Int) == (1:Int)) else false)) fun z3 =>
 chk (((z3 == true) && true)=true→0≤(0:Int)∧(0:Int) < y4.1.length) <|
 chk ((((bif z3 then (((y4.1.getD (0:Int).toNat []).length:Int) == (3:Int)) else false) == true) && true)=true→0≤(0:Int)∧(0:Int) < y4.1.length) <|
 chk ((((bif z3 then (((y4.1.getD (0:Int).toNat []).length:Int) == (3:Int)) else false) == true) && true)=true→0≤(0:Int)∧(0:Int) < (y4.1.getD (0:Int).toNat []).length) <|
 lett ((bif (bif z3 then (((y4.1.getD (0:Int).toNat []).length:Int) == (3:Int)) else false) then ((((y4.1.getD (0:Int).toNat []).getD (0:Int).toNat (S_FontPoint.mk 0 0 false)).f0) == (5:Int)) else false)) fun z4 =>
 some z4
def font_Subset_c1_L0 (F:Nat) (a0:Int) (c3:List S_FontGlyph) (rec_font_Subset_c1:Int→(List Bool)→Int→(List S_FontGlyph)→(List S_FontRange)→(List S_FontPair)→Option ((List Bool)×Int×(List S_FontGlyph)×(List S_FontRange)×(List S_FontPair))):Nat→Int→(List Bool)→Int→(List S_FontGlyph)→(List S_FontRange)→(List S_FontPair)→Option ((List Bool)×Int×(List S_FontGlyph)×(List S_FontRange)×(List S_FontPair))
 | 0,_,_,_,_,_,_=>none
 | n+1,v1,v2,v3,v4,v5,v6 =>
  bif (decide (v1 < (((c3.getD a0.toNat (S_FontGlyph.mk 0 [] [])).f2).length:Int))) then
   chk (0≤v1∧v1 < ((c3.getD a0.toNat (S_FontGlyph.mk 0 [] [])).f2).length) <|
   call (rec_font_Subset_c1 ((((c3.getD a0.toNat (S_FontGlyph.mk 0 [] [])).f2).getD v1.toNat (S_FontPart.mk 0 0 0)).f0) v2 v3 v4 v5 v6) fun y1 =>
   font_Subset_c1_L0 F a0 c3 rec_font_Subset_c1 n (IntKind.i64.wrap (v1+(1:Int))) y1.1 y1.2.1 y1.2.2.1 y1.2.2.2.1 y1.2.2.2.2
  else
   some (v2,v3,v4,v5,v6)
/-- printworks/font.Subset$1 -/
def font_Subset_c1_body (F:Nat) (rec_font_Subset_c1:Int→(List Bool)→Int→(List S_FontGlyph)→(List S_FontRange)→(List S_FontPair)→Option ((List Bool)×Int×(List S_FontGlyph)×(List S_FontRange)×(List S_FontPair))) (a0:Int) (c1:List Bool) (c2:Int) (c3:List S_FontGlyph) (c4:List S_FontRange) (c5:List S_FontPair):Option ((List Bool)×Int×(List S_FontGlyph)×(List S_FontRange)×(List S_FontPair)) :=
 chk (0≤a0∧a0 < c1.length) <|
 chk (0≤a0∧a0 < c3.length) <|
 call (font_Subset_c1_L0 F a0 c3 rec_font_Subset_c1 F (0:Int) (c1.set a0.toNat true) c2 c3 c4 c5)
  fun (v7,v8,v9,v10,v11) =>
 some (v7,v8,v9,v10,v11)
def font_Subset_c1_fuel (F:Nat):Nat→Int→(List Bool)→Int→(List S_FontGlyph)→(List S_FontRange)→(List S_FontPair)→Option ((List Bool)×Int×(List S_FontGlyph)×(List S_FontRange)×(List S_FontPair))
 | 0=>fun _ _ _ _ _ _=>none
 | n+1=>font_Subset_c1_body F (font_Subset_c1_fuel F n)
def font_Subset_c1 (F:Nat) (a0:Int) (c1:List Bool) (c2:Int) (c3:List S_FontGlyph) (c4:List S_FontRange) (c5:List S_FontPair):Option ((List Bool)×Int×(List S_FontGlyph)×(List S_FontRange)×(List S_FontPair)):=font_Subset_c1_fuel F F a0 c1 c2 c3 c4 c5
/-- slices.Clone[[]int,int] -/
def slices_Clone_int (F:Nat) (a0:List Int):Option ((List Int)) :=
 chk (([]:List Int).length+a0.length≤4294967296) <|
 some (([]:List Int)++a0)
/-- printworks/font.Subset$2 -/
def font_Subset_c2 (F:Nat) (a0:Int) (c1:Int) (c2:List S_FontGlyph) (c3:List S_FontRange) (c4:List S_FontPair):Option (Bool×Int×(List S_FontGlyph)×(List S_FontRange)×(List S_FontPair)) :=
 call (font_find F (S_Font.mk c1 c2 c3 c4) a0) fun y1 =>
 some ((y1 == (0:Int)),c1,c2,c3,c4)
def slices_IndexFunc_int_L0 (F:Nat) (c0:List Int):Nat→Int→Int→(List S_FontGlyph)→(List S_FontRange)→(List S_FontPair)→Option (Out (Int×(List S_FontGlyph)×(List S_FontRange)×(List S_FontPair)) (Int×(List Int)×Int×(List S_FontGlyph)×(List S_FontRange)×(List S_FontPair)))
 | 0,_,_,_,_,_=>none
 | n+1,v1,v2,v3,v4,v5 =>
  bif (decide (v1 < (c0.length:Int))) then
   chk (0≤v1∧v1 < c0.length) <|
   call (font_Subset_c2 F (c0.getD v1.toNat 0) v2 v3 v4 v5) fun y1 =>
   bif y1.1 then
    some (.esc (v1,c0,y1.2.1,y1.2.2.1,y1.2.2.2.1,y1.2.2.2.2))
   else
    slices_IndexFunc_int_L0 F c0 n (IntKind.i64.wrap (v1+(1:Int))) y1.2.1 y1.2.2.1 y1.2.2.2.1 y1.2.2.2.2
  else
   some (.go (v2,v3,v4,v5))
/-- slices.IndexFunc[[]int,int] -/
def slices_IndexFunc_int (F:Nat) (c0:List Int) (c1:Int) (c2:List S_FontGlyph) (c3:List S_FontRange) (c4:List S_FontPair):Option (Int×(List Int)×Int×(List S_FontGlyph)×(List S_FontRange)×(List S_FontPair)) :=
 callE (slices_IndexFunc_int_L0 F c0 F (0:Int) c1 c2 c3 c4)
  (fun e=>some e) fun (v6,v7,v8,v9) =>
 some ((-1:Int),c0,v6,v7,v8,v9)
def slices_DeleteFunc_int_L0 (F:Nat)  : Nat→(List Int)→Int→Int→Int→(List S_FontGlyph)→(List S_FontRange)→(List S_FontPair)→Option ((List Int)×Int×Int×(List S_FontGlyph)×(List S_FontRange)×(List S_FontPair))
 | 0,_,_,_,_,_,_,_=>none
 | n+1,v1,v2,v3,v4,v5,v6,v7 =>
  bif (decide (v3 < (v1.length:Int))) then
   call (chk (0≤v3∧v3 < v1.length) <|
    call (font_Subset_c2 F (v1.getD v3.toNat 0) v4 v5 v6 v7) fun y1 =>
    bif (!y1.1) then
     chk (0≤v2∧v2 < v1.length) <|
     some ((v1.set v2.toNat (v1.getD v3.toNat 0)),IntKind.i64.wrap (v2+(1:Int)),y1.2.1,y1.2.2.1,y1.2.2.2.1,y1.2.2.2.2)
    else
     some (v1,v2,y1.2.1,y1.2.2.1,y1.2.2.2.1,y1.2.2.2.2))
    fun (v8,v9,v10,v11,v12,v13) =>
   slices_DeleteFunc_int_L0 F n v8 v9 (IntKind.i64.wrap (v3+(1:Int))) v10 v11 v12 v13
  else
   some (v1,v2,v4,v5,v6,v7)
/-- slices.DeleteFunc[[]int,int] -/
def slices_DeleteFunc_int (F:Nat) (a0:List Int) (c1:Int) (c2:List S_FontGlyph) (c3:List S_FontRange) (c4:List S_FontPair):Option ((List Int)×Int×(List S_FontGlyph)×(List S_FontRange)×(List S_FontPair)) :=
 call (slices_IndexFunc_int F a0 c1 c2 c3 c4) fun y2 =>
 bif (y2.1 == (-1:Int)) then
  some (y2.2.1,y2.2.2.1,y2.2.2.2.1,y2.2.2.2.2.1,y2.2.2.2.2.2)
 else
  call (slices_DeleteFunc_int_L0 F F y2.2.1 y2.1 (IntKind.i64.wrap (y2.1+(1:Int))) y2.2.2.1 y2.2.2.2.1 y2.2.2.2.2.1 y2.2.2.2.2.2)
   fun (v14,v15,v16,v17,v18,v19) =>
  chk (0≤v15∧v15 < (v14.length:Int)) <|
  chk (0≤v15∧v15≤((v14.take v15.toNat++List.replicate (v14.length - v15.toNat) (0:Int)).length:Int)) <|
  some (((v14.take v15.toNat++List.replicate (v14.length - v15.toNat) (0:Int)).take v15.toNat),v16,v17,v18,v19)
/-- slices.Clone[[]printworks/api.FontPoint,printworks/api.FontPoint] -/
def slices_Clone_FontPoint (F:Nat) (a0:List S_FontPoint):Option ((List S_FontPoint)) :=
 chk (([]:List S_FontPoint).length+a0.length≤4294967296) <|
 some (([]:List S_FontPoint)++a0)
def font_Subset_L0 (F:Nat) (y1:(List Int)×Int×(List S_FontGlyph)×(List S_FontRange)×(List S_FontPair)):Nat→Int→(List S_FontGlyph)→(List S_FontRange)→(List S_FontPair)→(List Bool)→Int→Option (Int×(List S_FontGlyph)×(List S_FontRange)×(List S_FontPair)×(List Bool))
 | 0,_,_,_,_,_,_=>none
 | n+1,v1,v2,v3,v4,v5,v6 =>
  bif (decide (v6 < (y1.1.length:Int))) then
   chk (0≤v6∧v6 < y1.1.length) <|
   call (font_find F (S_Font.mk v1 v2 v3 v4) (y1.1.getD v6.toNat 0)) fun y2 =>
   call (font_Subset_c1 F y2 v5 v1 v2 v3 v4) fun y3 =>
   font_Subset_L0 F y1 n y3.2.1 y3.2.2.1 y3.2.2.2.1 y3.2.2.2.2 y3.1 (IntKind.i64.wrap (v6+(1:Int)))
  else
   some (v1,v2,v3,v4,v5)
def font_Subset_L2 (F:Nat) (v7:List Bool):Nat→(List Int)→(List Int)→Int→Option ((List Int)×(List Int))
 | 0,_,_,_=>none
 | n+1,v8,v9,v10 =>
  bif (decide (v10 < (v7.length:Int))) then
   call (chk (0≤v10∧v10 < v7.length) <|
    bif (v7.getD v10.toNat false) then
     chk (0≤v10∧v10 < v9.length) <|
     chk (v8.length+([v10]).length≤4294967296) <|
     some ((v8++([v10])),(v9.set v10.toNat (v8.length:Int)))
    else
     some (v8,v9))
    fun (v11,v12) =>
   font_Subset_L2 F v7 n v11 v12 (IntKind.i64.wrap (v10+(1:Int)))
  else
   some (v8,v9)
def font_Subset_L6 (F:Nat) (v13:List S_FontGlyph) (v14:List Int) (v15:Int):Nat→(List (List S_FontPoint))→Int→Option ((List (List S_FontPoint)))
 | 0,_,_=>none
 | n+1,v16,v17 =>
  lett ((decide (v17 < (((v13.getD (v14.getD v15.toNat 0).toNat (S_FontGlyph.mk 0 [] [])).f1).length:Int)))) fun z1 =>
  bif z1 then
   chk (0≤v17∧v17 < ((v13.getD (v14.getD v15.toNat 0).toNat (S_FontGlyph.mk 0 [] [])).f1).length) <|
   call (slices_Clone_FontPoint F (((v13.getD (v14.getD v15.toNat 0).toNat (S_FontGlyph.mk 0 [] [])).f1).getD v17.toNat [])) fun y4 =>
   chk (v16.length+([y4]).length≤4294967296) <|
   font_Subset_L6 F v13 v14 v15 n (v16++([y4])) (IntKind.i64.wrap (v17+(1:Int)))
  else
   some v16
def font_Subset_L8 (F:Nat) (v13:List S_FontGlyph) (v14:List Int) (v18:List Int) (v15:Int):Nat→(List S_FontPart)→Int→Option ((List S_FontPart))
 | 0,_,_=>none
 | n+1,v19,v20 =>
  lett ((decide (v20 < (((v13.getD (v14.getD v15.toNat 0).toNat (S_FontGlyph.mk 0 [] [])).f2).length:Int)))) fun z2 =>
  bif z2 then
   chk (0≤v20∧v20 < ((v13.getD (v14.getD v15.toNat 0).toNat (S_FontGlyph.mk 0 [] [])).f2).length) <|
   lett ((((v13.getD (v14.getD v15.toNat 0).toNat (S_FontGlyph.mk 0 [] [])).f2).getD v20.toNat (S_FontPart.mk 0 0 0)).f0) fun z3 =>
   chk (0≤z3∧z3 < v18.length) <|
   lett ((((v13.getD (v14.getD v15.toNat 0).toNat (S_FontGlyph.mk 0 [] [])).f2).getD v20.toNat (S_FontPart.mk 0 0 0)).f1) fun z4 =>
   lett ((((v13.getD (v14.getD v15.toNat 0).toNat (S_FontGlyph.mk 0 [] [])).f2).getD v20.toNat (S_FontPart.mk 0 0 0)).f2) fun z5 =>
   chk (v19.length+([(S_FontPart.mk (v18.getD z3.toNat 0) z4 z5)]).length≤4294967296) <|
   font_Subset_L8 F v13 v14 v18 v15 n (v19++([(S_FontPart.mk (v18.getD z3.toNat 0) z4 z5)])) (IntKind.i64.wrap (v20+(1:Int)))
  else
   some v19
def font_Subset_L4 (F:Nat) (v13:List S_FontGlyph) (v14:List Int) (v18:List Int):Nat→(List S_FontGlyph)→Int→Option ((List S_FontGlyph))
 | 0,_,_=>none
 | n+1,v21,v15 =>
  bif (decide (v15 < (v14.length:Int))) then
   chk (0≤v15∧v15 < v14.length) <|
   chk (0≤(v14.getD v15.toNat 0)∧(v14.getD v15.toNat 0) < v13.length) <|
   chk (0≤(v14.getD v15.toNat 0)∧(v14.getD v15.toNat 0) < v13.length) <|
   call (font_Subset_L6 F v13 v14 v15 F [] (0:Int))
    fun v22 =>
   chk (0≤(v14.getD v15.toNat 0)∧(v14.getD v15.toNat 0) < v13.length) <|
   call (font_Subset_L8 F v13 v14 v18 v15 F [] (0:Int))
    fun v23 =>
   chk (v21.length+([(S_FontGlyph.mk ((v13.getD (v14.getD v15.toNat 0).toNat (S_FontGlyph.mk 0 [] [])).f0) v22 v23)]).length≤4294967296) <|
   lett ((v21++([(S_FontGlyph.mk ((v13.getD (v14.getD v15.toNat 0).toNat (S_FontGlyph.mk 0 [] [])).f0) v22 v23)]))) fun l1 =>
   font_Subset_L4 F v13 v14 v18 n l1 (IntKind.i64.wrap (v15+(1:Int)))
  else
   some v21
def font_Subset_L10 (F:Nat) (y1:(List Int)×Int×(List S_FontGlyph)×(List S_FontRange)×(List S_FontPair)) (v24:Int) (v13:List S_FontGlyph) (v25:List S_FontRange) (v26:List S_FontPair) (v18:List Int):Nat→(List S_FontRange)→Int→Option ((List S_FontRange))
 | 0,_,_=>none
 | n+1,v27,v28 =>
  bif (decide (v28 < (y1.1.length:Int))) then
   call (chk (0≤v28∧v28 < y1.1.length) <|
    call (font_find F (S_Font.mk v24 v13 v25 v26) (y1.1.getD v28.toNat 0)) fun y5 =>
    chk (0≤y5∧y5 < v18.length) <|
    chk ((((decide ((v27.length:Int) > (0:Int))) == true) && true)=true→0≤(IntKind.i64.wrap ((v27.length:Int) - (1:Int)))∧(IntKind.i64.wrap ((v27.length:Int) - (1:Int))) < v27.length) <|
    lett ((((v27.getD (IntKind.i64.wrap ((v27.length:Int) - (1:Int))).toNat (S_FontRange.mk 0 0 0)).f1) == (IntKind.i64.wrap ((y1.1.getD v28.toNat 0) - (1:Int))))) fun z6 =>
    chk ((((bif (decide ((v27.length:Int) > (0:Int))) then z6 else false) == true) && true)=true→0≤(IntKind.i64.wrap ((v27.length:Int) - (1:Int)))∧(IntKind.i64.wrap ((v27.length:Int) - (1:Int))) < v27.length) <|
    lett (IntKind.i64.wrap (((v27.getD (IntKind.i64.wrap ((v27.length:Int) - (1:Int))).toNat (S_FontRange.mk 0 0 0)).f2)+(y1.1.getD v28.toNat 0))) fun z7 =>
    chk ((((bif (decide ((v27.length:Int) > (0:Int))) then z6 else false) == true) && true)=true→0≤(IntKind.i64.wrap ((v27.length:Int) - (1:Int)))∧(IntKind.i64.wrap ((v27.length:Int) - (1:Int))) < v27.length) <|
    lett (IntKind.i64.wrap (z7 - ((v27.getD (IntKind.i64.wrap ((v27.length:Int) - (1:Int))).toNat (S_FontRange.mk 0 0 0)).f0))) fun z8 =>
    lett ((bif (bif (decide ((v27.length:Int) > (0:Int))) then z6 else false) then (z8 == (v18.getD y5.toNat 0)) else false)) fun z9 =>
    bif z9 then
     chk (0≤(IntKind.i64.wrap ((v27.length:Int) - (1:Int)))∧(IntKind.i64.wrap ((v27.length:Int) - (1:Int))) < v27.length) <|
     some (v27.set (IntKind.i64.wrap ((v27.length:Int) - (1:Int))).toNat (S_FontRange.mk ((v27.getD (IntKind.i64.wrap ((v27.length:Int) - (1:Int))).toNat (S_FontRange.mk 0 0 0)).f0) (y1.1.getD v28.toNat 0) ((v27.getD (IntKind.i64.wrap ((v27.length:Int) - (1:Int))).toNat (S_FontRange.mk 0 0 0)).f2)))
    else
     chk (v27.length+([(S_FontRange.mk (y1.1.getD v28.toNat 0) (y1.1.getD v28.toNat 0) (v18.getD y5.toNat 0))]).length≤4294967296) <|
     lett ((v27++([(S_FontRange.mk (y1.1.getD v28.toNat 0) (y1.1.getD v28.toNat 0) (v18.getD y5.toNat 0))]))) fun l2 =>
     some l2)
    fun v29 =>
   font_Subset_L10 F y1 v24 v13 v25 v26 v18 n v29 (IntKind.i64.wrap (v28+(1:Int)))
  else
   some v27
def font_Subset_L12 (F:Nat) (v26:List S_FontPair) (v7:List Bool) (v18:List Int):Nat→(List S_FontPair)→Int→Option ((List S_FontPair))
 | 0,_,_=>none
 | n+1,v30,v31 =>
  bif (decide (v31 < (v26.length:Int))) then
   call (chk (0≤v31∧v31 < v26.length) <|
    chk (0≤((v26.getD v31.toNat (S_FontPair.mk 0 0 0)).f0)∧((v26.getD v31.toNat (S_FontPair.mk 0 0 0)).f0) < v7.length) <|
    chk ((((v7.getD ((v26.getD v31.toNat (S_FontPair.mk 0 0 0)).f0).toNat false) == true) && true)=true→0≤((v26.getD v31.toNat (S_FontPair.mk 0 0 0)).f1)∧((v26.getD v31.toNat (S_FontPair.mk 0 0 0)).f1) < v7.length) <|
    lett ((bif (v7.getD ((v26.getD v31.toNat (S_FontPair.mk 0 0 0)).f0).toNat false) then (v7.getD ((v26.getD v31.toNat (S_FontPair.mk 0 0 0)).f1).toNat false) else false)) fun z10 =>
    bif z10 then
     chk (0≤((v26.getD v31.toNat (S_FontPair.mk 0 0 0)).f0)∧((v26.getD v31.toNat (S_FontPair.mk 0 0 0)).f0) < v18.length) <|
     chk (0≤((v26.getD v31.toNat (S_FontPair.mk 0 0 0)).f1)∧((v26.getD v31.toNat (S_FontPair.mk 0 0 0)).f1) < v18.length) <|
     chk (v30.length+([(S_FontPair.mk (v18.getD ((v26.getD v31.toNat (S_FontPair.mk 0 0 0)).f0).toNat 0) (v18.getD ((v26.getD v31.toNat (S_FontPair.mk 0 0 0)).f1).toNat 0) ((v26.getD v31.toNat (S_FontPair.mk 0 0 0)).f2))]).length≤4294967296) <|
     lett ((v30++([(S_FontPair.mk (v18.getD ((v26.getD v31.toNat (S_FontPair.mk 0 0 0)).f0).toNat 0) (v18.getD ((v26.getD v31.toNat (S_FontPair.mk 0 0 0)).f1).toNat 0) ((v26.getD v31.toNat (S_FontPair.mk 0 0 0)).f2))]))) fun l3 =>
     some l3
    else
     some v30)
    fun v32 =>
   font_Subset_L12 F v26 v7 v18 n v32 (IntKind.i64.wrap (v31+(1:Int)))
  else
   some v30
/-- printworks/font.Subset -/
def font_Subset (F:Nat) (a0:S_Font) (a1:List Int):Option (S_Font×(List Int)×Int) :=
 call (font_Check F a0) fun y6 =>
 bif (y6 != (0:Int)) then
  some ((S_Font.mk 0 [] [] []),[],y6)
 else
  bif (decide ((a1.length:Int) > (1024:Int))) then
   some ((S_Font.mk 0 [] [] []),[],(2:Int))
  else
   chk (0≤(a0.f1.length:Int)∧(a0.f1.length:Int)≤(a0.f1.length:Int)∧(a0.f1.length:Int)≤9223372036854775807∧((1:Nat):Int) * (a0.f1.length:Int)≤281474976710656) <|
   call (font_Subset_c1 F (0:Int) (List.replicate (a0.f1.length:Int).toNat false) a0.f0 a0.f1 a0.f2 a0.f3) fun y7 =>
   call (slices_Clone_int F a1) fun y8 =>
   chk (y8.length≤4294967296) <|
   chk ((sortI y8).length≤4294967296) <|
   call (slices_DeleteFunc_int F (Lib.compact (sortI y8)) y7.2.1 y7.2.2.1 y7.2.2.2.1 y7.2.2.2.2) fun y1 =>
   call (font_Subset_L0 F y1 F y1.2.1 y1.2.2.1 y1.2.2.2.1 y1.2.2.2.2 y7.1 (0:Int))
    fun (v24,v13,v25,v26,v7) =>
   chk (0≤(v13.length:Int)∧(v13.length:Int)≤(v13.length:Int)∧(v13.length:Int)≤9223372036854775807∧((8:Nat):Int) * (v13.length:Int)≤281474976710656) <|
   call (font_Subset_L2 F v7 F [] (List.replicate (v13.length:Int).toNat 0) (0:Int))
    fun (v14,v18) =>
   call (font_Subset_L4 F v13 v14 v18 F [] (0:Int))
    fun v33 =>
   call (font_Subset_L10 F y1 v24 v13 v25 v26 v18 F [] (0:Int))
    fun v34 =>
   call (font_Subset_L12 F v26 v7 v18 F [] (0:Int))
    fun v35 =>
   call (font_Check F (S_Font.mk v24 v33 v34 v35)) fun y9 =>
   bif (y9 != (0:Int)) then
    some ((S_Font.mk 0 [] [] []),[],y9)
   else
    some ((S_Font.mk v24 v33 v34 v35),v14,(0:Int))
def ref3_beyond_L0 (F:Nat) (a0:Int) (a1:List Int):Nat→Int→Option (Out Unit Bool)
 | 0,_=>none
 | n+1,v1 =>
  bif (decide (v1 < (a1.length:Int))) then
   chk (0≤v1∧v1 < a1.length) <|
   lett ((bif (decide ((a1.getD v1.toNat 0) > a0)) then true else (decide ((a1.getD v1.toNat 0) < (IntKind.i64.wrap (0 - a0)))))) fun z1 =>
   bif z1 then
    some (.esc true)
   else
    ref3_beyond_L0 F a0 a1 n (IntKind.i64.wrap (v1+(1:Int)))
  else
   some (.go ())
/-- printworks/printworksref3.beyond -/
def ref3_beyond (F:Nat) (a0:Int) (a1:List Int):Option Bool :=
 callE (ref3_beyond_L0 F a0 a1 F (0:Int))
  (fun e=>some e) fun _ =>
 some false
def ref3_glyphError_L2 (F:Nat) (a0:S_FontGlyph) (v1:Int):Nat→Int→Option (Out Unit Int)
 | 0,_=>none
 | n+1,v2 =>
  bif (decide (v2 < ((a0.f1.getD v1.toNat []).length:Int))) then
   chk (0≤v2∧v2 < (a0.f1.getD v1.toNat []).length) <|
   call (ref3_beyond F (2047:Int) ([((a0.f1.getD v1.toNat []).getD v2.toNat (S_FontPoint.mk 0 0 false)).f0,((a0.f1.getD v1.toNat []).getD v2.toNat (S_FontPoint.mk 0 0 false)).f1])) fun y1 =>
   bif y1 then
    some (.esc (3:Int))
   else
    chk ((((decide (v2 > (0:Int))) == true) && true)=true→0≤(IntKind.i64.wrap (v2 - (1:Int)))∧(IntKind.i64.wrap (v2 - (1:Int))) < (a0.f1.getD v1.toNat []).length) <|
    lett (((a0.f1.getD v1.toNat []).getD (IntKind.i64.wrap (v2 - (1:Int))).toNat (S_FontPoint.mk 0 0 false)).f2) fun z1 =>
    lett ((bif (bif (decide (v2 > (0:Int))) then (!z1) else false) then (!(((a0.f1.getD v1.toNat []).getD v2.toNat (S_FontPoint.mk 0 0 false)).f2)) else false)) fun z2 =>
    bif z2 then
     some (.esc (4:Int))
    else
     ref3_glyphError_L2 F a0 v1 n (IntKind.i64.wrap (v2+(1:Int)))
  else
   some (.go ())
def ref3_glyphError_L0 (F:Nat) (a0:S_FontGlyph):Nat→Int→Option (Out Unit Int)
 | 0,_=>none
 | n+1,v1 =>
  bif (decide (v1 < (a0.f1.length:Int))) then
   chk (0≤v1∧v1 < a0.f1.length) <|
   chk ((((decide (((a0.f1.getD v1.toNat []).length:Int) < (3:Int))) == false) && true)=true→0≤(0:Int)∧(0:Int) < (a0.f1.getD v1.toNat []).length) <|
   lett ((bif (decide (((a0.f1.getD v1.toNat []).length:Int) < (3:Int))) then true else (!(((a0.f1.getD v1.toNat []).getD (0:Int).toNat (S_FontPoint.mk 0 0 false)).f2)))) fun z3 =>
   bif z3 then
    some (.esc (4:Int))
   else
    bif (decide (((a0.f1.getD v1.toNat []).length:Int) > (32:Int))) then
     some (.esc (2:Int))
    else
     callE (ref3_glyphError_L2 F a0 v1 F (0:Int))
      (fun e=>some (.esc e)) fun _ =>
     ref3_glyphError_L0 F a0 n (IntKind.i64.wrap (v1+(1:Int)))
  else
   some (.go ())
def ref3_glyphError_L4 (F:Nat) (a0:S_FontGlyph) (a1:Int):Nat→Int→Option (Out Unit Int)
 | 0,_=>none
 | n+1,v3 =>
  bif (decide (v3 < (a0.f2.length:Int))) then
   chk (0≤v3∧v3 < a0.f2.length) <|
   lett ((bif (decide (((a0.f2.getD v3.toNat (S_FontPart.mk 0 0 0)).f0) < (0:Int))) then true else (decide (((a0.f2.getD v3.toNat (S_FontPart.mk 0 0 0)).f0) ≥ a1)))) fun z4 =>
   bif z4 then
    some (.esc (8:Int))
   else
    call (ref3_beyond F (2047:Int) ([(a0.f2.getD v3.toNat (S_FontPart.mk 0 0 0)).f1,(a0.f2.getD v3.toNat (S_FontPart.mk 0 0 0)).f2])) fun y2 =>
    bif y2 then
     some (.esc (3:Int))
    else
     ref3_glyphError_L4 F a0 a1 n (IntKind.i64.wrap (v3+(1:Int)))
  else
   some (.go ())
/-- printworks/printworksref3.glyphError -/
def ref3_glyphError (F:Nat) (a0:S_FontGlyph) (a1:Int):Option Int :=
 bif (bif (decide (a0.f0 < (0:Int))) then true else (decide (a0.f0 > (2047:Int)))) then
  some (3:Int)
 else
  lett ((bif (decide ((a0.f1.length:Int) > (0:Int))) then (decide ((a0.f2.length:Int) > (0:Int))) else false)) fun z5 =>
  bif z5 then
   some (4:Int)
  else
   lett ((bif (decide ((a0.f1.length:Int) > (8:Int))) then true else (decide ((a0.f2.length:Int) > (4:Int))))) fun z6 =>
   bif z6 then
    some (2:Int)
   else
    callE (ref3_glyphError_L0 F a0 F (0:Int))
     (fun e=>some e) fun _ =>
    callE (ref3_glyphError_L4 F a0 a1 F (0:Int))
     (fun e=>some e) fun _ =>
    some (0:Int)
def ref3_mapError_L0 (F:Nat) (a0:S_Font):Nat→Int→Option (Out Unit Int)
 | 0,_=>none
 | n+1,v1 =>
  bif (decide (v1 < (a0.f2.length:Int))) then
   chk (0≤v1∧v1 < a0.f2.length) <|
   lett ((decide (((a0.f2.getD v1.toNat (S_FontRange.mk 0 0 0)).f1) < ((a0.f2.getD v1.toNat (S_FontRange.mk 0 0 0)).f0)))) fun z1 =>
   lett ((bif (bif (decide (((a0.f2.getD v1.toNat (S_FontRange.mk 0 0 0)).f0) < (0:Int))) then true else z1) then true else (decide (((a0.f2.getD v1.toNat (S_FontRange.mk 0 0 0)).f1) > (1114111:Int))))) fun z2 =>
   bif z2 then
    some (.esc (3:Int))
   else
    lett ((bif (decide (((a0.f2.getD v1.toNat (S_FontRange.mk 0 0 0)).f2) < (0:Int))) then true else (decide (((a0.f2.getD v1.toNat (S_FontRange.mk 0 0 0)).f2) ≥ (a0.f1.length:Int))))) fun z3 =>
    lett (IntKind.i64.wrap (((a0.f2.getD v1.toNat (S_FontRange.mk 0 0 0)).f1) - ((a0.f2.getD v1.toNat (S_FontRange.mk 0 0 0)).f0))) fun z4 =>
    lett ((decide (z4 ≥ (IntKind.i64.wrap ((a0.f1.length:Int) - ((a0.f2.getD v1.toNat (S_FontRange.mk 0 0 0)).f2)))))) fun z5 =>
    bif (bif z3 then true else z5) then
     some (.esc (8:Int))
    else
     chk ((((decide (v1 > (0:Int))) == true) && true)=true→0≤(IntKind.i64.wrap (v1 - (1:Int)))∧(IntKind.i64.wrap (v1 - (1:Int))) < a0.f2.length) <|
     lett ((decide (((a0.f2.getD (IntKind.i64.wrap (v1 - (1:Int))).toNat (S_FontRange.mk 0 0 0)).f1) ≥ ((a0.f2.getD v1.toNat (S_FontRange.mk 0 0 0)).f0)))) fun z6 =>
     bif (bif (decide (v1 > (0:Int))) then z6 else false) then
      some (.esc (18:Int))
     else
      ref3_mapError_L0 F a0 n (IntKind.i64.wrap (v1+(1:Int)))
  else
   some (.go ())
def ref3_mapError_L2 (F:Nat) (a0:S_Font):Nat→Int→Option (Out Unit Int)
 | 0,_=>none
 | n+1,v2 =>
  bif (decide (v2 < (a0.f3.length:Int))) then
   chk (0≤v2∧v2 < a0.f3.length) <|
   lett ((bif (decide (((a0.f3.getD v2.toNat (S_FontPair.mk 0 0 0)).f0) < (0:Int))) then true else (decide (((a0.f3.getD v2.toNat (S_FontPair.mk 0 0 0)).f1) < (0:Int))))) fun z7 =>
   lett ((bif z7 then true else (decide (((a0.f3.getD v2.toNat (S_FontPair.mk 0 0 0)).f0) ≥ (a0.f1.length:Int))))) fun z8 =>
   lett ((bif z8 then true else (decide (((a0.f3.getD v2.toNat (S_FontPair.mk 0 0 0)).f1) ≥ (a0.f1.length:Int))))) fun z9 =>
   bif z9 then
    some (.esc (8:Int))
   else
    call ((bif (((((a0.f3.getD v2.toNat (S_FontPair.mk 0 0 0)).f2) == (0:Int)) == false) && true) then ref3_beyond F (2047:Int) ([(a0.f3.getD v2.toNat (S_FontPair.mk 0 0 0)).f2]) else some false)) fun y1 =>
    bif (bif (((a0.f3.getD v2.toNat (S_FontPair.mk 0 0 0)).f2) == (0:Int)) then true else y1) then
     some (.esc (3:Int))
    else
     chk ((((decide (v2 > (0:Int))) == true) && true)=true→0≤(IntKind.i64.wrap (v2 - (1:Int)))∧(IntKind.i64.wrap (v2 - (1:Int))) < a0.f3.length) <|
     lett (IntKind.i64.wrap (((a0.f3.getD (IntKind.i64.wrap (v2 - (1:Int))).toNat (S_FontPair.mk 0 0 0)).f0) * (200:Int))) fun z10 =>
     chk ((((decide (v2 > (0:Int))) == true) && true)=true→0≤(IntKind.i64.wrap (v2 - (1:Int)))∧(IntKind.i64.wrap (v2 - (1:Int))) < a0.f3.length) <|
     lett (IntKind.i64.wrap (z10+((a0.f3.getD (IntKind.i64.wrap (v2 - (1:Int))).toNat (S_FontPair.mk 0 0 0)).f1))) fun z11 =>
     lett (IntKind.i64.wrap ((IntKind.i64.wrap (((a0.f3.getD v2.toNat (S_FontPair.mk 0 0 0)).f0) * (200:Int)))+((a0.f3.getD v2.toNat (S_FontPair.mk 0 0 0)).f1))) fun z12 =>
     bif (bif (decide (v2 > (0:Int))) then (decide (z11 ≥ z12)) else false) then
      some (.esc (18:Int))
     else
      ref3_mapError_L2 F a0 n (IntKind.i64.wrap (v2+(1:Int)))
  else
   some (.go ())
/-- printworks/printworksref3.mapError -/
def ref3_mapError (F:Nat) (a0:S_Font):Option Int :=
 callE (ref3_mapError_L0 F a0 F (0:Int))
  (fun e=>some e) fun _ =>
 callE (ref3_mapError_L2 F a0 F (0:Int))
  (fun e=>some e) fun _ =>
 some (0:Int)
def ref3_nested_L4 (F:Nat) (a0:S_Font) (v1:Int):Nat→Int→Int→Option Int
 | 0,_,_=>none
 | n+1,v2,v3 =>
  bif (decide (v3 < (((a0.f1.getD v1.toNat (S_FontGlyph.mk 0 [] [])).f1).length:Int))) then
   chk (0≤v3∧v3 < ((a0.f1.getD v1.toNat (S_FontGlyph.mk 0 [] [])).f1).length) <|
   lett (IntKind.i64.wrap (v2+((((a0.f1.getD v1.toNat (S_FontGlyph.mk 0 [] [])).f1).getD v3.toNat []).length:Int))) fun z1 =>
   ref3_nested_L4 F a0 v1 n z1 (IntKind.i64.wrap (v3+(1:Int)))
  else
   some v2
def ref3_nested_L6 (F:Nat) (a0:S_Font) (v4:List Int) (v5:List Int) (v1:Int):Nat→Int→Int→Bool→Int→Option (Int×Int×Bool)
 | 0,_,_,_,_=>none
 | n+1,v6,v7,v8,v9 =>
  bif (decide (v9 < (((a0.f1.getD v1.toNat (S_FontGlyph.mk 0 [] [])).f2).length:Int))) then
   chk (0≤v9∧v9 < ((a0.f1.getD v1.toNat (S_FontGlyph.mk 0 [] [])).f2).length) <|
   chk (((v8 == true) && true)=true→0≤((((a0.f1.getD v1.toNat (S_FontGlyph.mk 0 [] [])).f2).getD v9.toNat (S_FontPart.mk 0 0 0)).f0)∧((((a0.f1.getD v1.toNat (S_FontGlyph.mk 0 [] [])).f2).getD v9.toNat (S_FontPart.mk 0 0 0)).f0) < v4.length) <|
   lett ((v4.getD ((((a0.f1.getD v1.toNat (S_FontGlyph.mk 0 [] [])).f2).getD v9.toNat (S_FontPart.mk 0 0 0)).f0).toNat 0)) fun z2 =>
   chk (0≤((((a0.f1.getD v1.toNat (S_FontGlyph.mk 0 [] [])).f2).getD v9.toNat (S_FontPart.mk 0 0 0)).f0)∧((((a0.f1.getD v1.toNat (S_FontGlyph.mk 0 [] [])).f2).getD v9.toNat (S_FontPart.mk 0 0 0)).f0) < v4.length) <|
   lett ((v4.getD ((((a0.f1.getD v1.toNat (S_FontGlyph.mk 0 [] [])).f2).getD v9.toNat (S_FontPart.mk 0 0 0)).f0).toNat 0)) fun z3 =>
   lett ((if v6 < (IntKind.i64.wrap (z3+(1:Int))) then (IntKind.i64.wrap (z3+(1:Int))) else v6)) fun z4 =>
   chk (0≤((((a0.f1.getD v1.toNat (S_FontGlyph.mk 0 [] [])).f2).getD v9.toNat (S_FontPart.mk 0 0 0)).f0)∧((((a0.f1.getD v1.toNat (S_FontGlyph.mk 0 [] [])).f2).getD v9.toNat (S_FontPart.mk 0 0 0)).f0) < v5.length) <|
   lett ((v5.getD ((((a0.f1.getD v1.toNat (S_FontGlyph.mk 0 [] [])).f2).getD v9.toNat (S_FontPart.mk 0 0 0)).f0).toNat 0)) fun z5 =>
   lett ((if (1073741824:Int) < (IntKind.i64.wrap (v7+z5)) then (1073741824:Int) else (IntKind.i64.wrap (v7+z5)))) fun z6 =>
   ref3_nested_L6 F a0 v4 v5 v1 n z4 z6 (bif v8 then (decide (z2 > (0:Int))) else false) (IntKind.i64.wrap (v9+(1:Int)))
  else
   some (v6,v7,v8)
def ref3_nested_L2 (F:Nat) (a0:S_Font):Nat→(List Int)→(List Int)→Int→Int→Option ((List Int)×(List Int)×Int)
 | 0,_,_,_,_=>none
 | n+1,v4,v5,v10,v1 =>
  bif (decide (v1 < (a0.f1.length:Int))) then
   call (chk (0≤v1∧v1 < a0.f1.length) <|
    chk (0≤v1∧v1 < v4.length) <|
    call (ref3_nested_L4 F a0 v1 F (0:Int) (0:Int))
     fun v11 =>
    call (ref3_nested_L6 F a0 v4 v5 v1 F (1:Int) v11 ((v4.getD v1.toNat 0) == (0:Int)) (0:Int))
     fun (v12,v13,v14) =>
    bif v14 then
     chk (0≤v1∧v1 < v4.length) <|
     chk (0≤v1∧v1 < v5.length) <|
     some ((v4.set v1.toNat v12),(v5.set v1.toNat v13),IntKind.i64.wrap (v10 - (1:Int)))
    else
     some (v4,v5,v10))
    fun (v15,v16,v17) =>
   ref3_nested_L2 F a0 n v15 v16 v17 (IntKind.i64.wrap (v1+(1:Int)))
  else
   some (v4,v5,v10)
def ref3_nested_L0 (F:Nat) (a0:S_Font):Nat→(List Int)→(List Int)→Int→Int→Option ((List Int)×(List Int)×Int)
 | 0,_,_,_,_=>none
 | n+1,v18,v19,v20,v21 =>
  bif (decide (v21 < (a0.f1.length:Int))) then
   call (ref3_nested_L2 F a0 F v18 v19 v20 (0:Int))
    fun (v22,v23,v24) =>
   ref3_nested_L0 F a0 n v22 v23 v24 (IntKind.i64.wrap (v21+(1:Int)))
  else
   some (v18,v19,v20)
/-- printworks/printworksref3.nested -/
def ref3_nested (F:Nat) (a0:S_Font):Option ((List Int)×(List Int)×Bool) :=
 chk (0≤(a0.f1.length:Int)∧(a0.f1.length:Int)≤(a0.f1.length:Int)∧(a0.f1.length:Int)≤9223372036854775807∧((8:Nat):Int) * (a0.f1.length:Int)≤281474976710656) <|
 chk (0≤(a0.f1.length:Int)∧(a0.f1.length:Int)≤(a0.f1.length:Int)∧(a0.f1.length:Int)≤9223372036854775807∧((8:Nat):Int) * (a0.f1.length:Int)≤281474976710656) <|
 call (ref3_nested_L0 F a0 F (List.replicate (a0.f1.length:Int).toNat 0) (List.replicate (a0.f1.length:Int).toNat 0) (a0.f1.length:Int) (0:Int))
  fun (v25,v26,v27) =>
 some (v25,v26,(v27 == (0:Int)))
def ref3_FontError_L3 (F:Nat) (a0:S_Font) (v1:Int):Nat→Int→Int→Option Int
 | 0,_,_=>none
 | n+1,v2,v3 =>
  bif (decide (v3 < (((a0.f1.getD v1.toNat (S_FontGlyph.mk 0 [] [])).f1).length:Int))) then
   chk (0≤v3∧v3 < ((a0.f1.getD v1.toNat (S_FontGlyph.mk 0 [] [])).f1).length) <|
   lett (IntKind.i64.wrap ((5:Int) * ((((a0.f1.getD v1.toNat (S_FontGlyph.mk 0 [] [])).f1).getD v3.toNat []).length:Int))) fun z1 =>
   ref3_FontError_L3 F a0 v1 n (IntKind.i64.wrap (v2+(IntKind.i64.wrap ((1:Int)+z1)))) (IntKind.i64.wrap (v3+(1:Int)))
  else
   some v2
def ref3_FontError_L1 (F:Nat) (a0:S_Font):Nat→Int→Int→Option (Out Int Int)
 | 0,_,_=>none
 | n+1,v4,v1 =>
  bif (decide (v1 < (a0.f1.length:Int))) then
   chk (0≤v1∧v1 < a0.f1.length) <|
   call (ref3_glyphError F (a0.f1.getD v1.toNat (S_FontGlyph.mk 0 [] [])) (a0.f1.length:Int)) fun y1 =>
   bif (y1 != (0:Int)) then
    some (.esc y1)
   else
    lett (IntKind.i64.wrap ((4:Int)+(IntKind.i64.wrap ((5:Int) * (((a0.f1.getD v1.toNat (S_FontGlyph.mk 0 [] [])).f2).length:Int))))) fun z2 =>
    call (ref3_FontError_L3 F a0 v1 F (IntKind.i64.wrap (v4+z2)) (0:Int))
     fun v5 =>
    ref3_FontError_L1 F a0 n v5 (IntKind.i64.wrap (v1+(1:Int)))
  else
   some (.go v4)
def ref3_FontError_L5 (F:Nat) (a0:S_Font) (y2:(List Int)×(List Int)×Bool):Nat→Int→Option (Out Unit Int)
 | 0,_=>none
 | n+1,v6 =>
  bif (decide (v6 < (a0.f1.length:Int))) then
   chk (0≤v6∧v6 < y2.1.length) <|
   bif (decide ((y2.1.getD v6.toNat 0) > (4:Int))) then
    some (.esc (15:Int))
   else
    chk (0≤v6∧v6 < y2.2.1.length) <|
    bif (decide ((y2.2.1.getD v6.toNat 0) > (512:Int))) then
     some (.esc (2:Int))
    else
     ref3_FontError_L5 F a0 y2 n (IntKind.i64.wrap (v6+(1:Int)))
  else
   some (.go ())
/-- printworks/printworksref3.FontError -/
def ref3_FontError (F:Nat) (a0:S_Font):Option Int :=
 bif (bif (decide (a0.f0 < (16:Int))) then true else (decide (a0.f0 > (1024:Int)))) then
  some (3:Int)
 else
  bif ((a0.f1.length:Int) == (0:Int)) then
   some (8:Int)
  else
   lett ((bif (decide ((a0.f1.length:Int) > (128:Int))) then true else (decide ((a0.f2.length:Int) > (64:Int))))) fun z3 =>
   bif (bif z3 then true else (decide ((a0.f3.length:Int) > (128:Int)))) then
    some (2:Int)
   else
    lett (IntKind.i64.wrap ((IntKind.i64.wrap ((27:Int)+(IntKind.i64.wrap ((7:Int) * (a0.f2.length:Int)))))+(IntKind.i64.wrap ((4:Int) * (a0.f3.length:Int))))) fun z4 =>
    callE (ref3_FontError_L1 F a0 F z4 (0:Int))
     (fun e=>some e) fun v7 =>
    call (ref3_mapError F a0) fun y3 =>
    bif (y3 != (0:Int)) then
     some y3
    else
     call (ref3_nested F a0) fun y2 =>
     bif (!y2.2.2) then
      some (13:Int)
     else
      callE (ref3_FontError_L5 F a0 y2 F (0:Int))
       (fun e=>some e) fun _ =>
      bif (decide (v7 > (4096:Int))) then
       some (2:Int)
      else
       some (0:Int)
/-- printworks/font.Encode -/
def font_Encode (F:Nat) (a0:S_Font):Option ((List UInt8)×Int) :=
 call (font_Check F a0) fun y1 =>
 bif (y1 != (0:Int)) then
  some ([],y1)
 else
  call (font_written F a0) fun y2 =>
  some (y2,(0:Int))
def ref3_GlyphOf_L2 (F:Nat) (a0:S_Font) (a1:Int) (v1:Int):Nat→Int→Option (Out Unit Int)
 | 0,_=>none
 | n+1,v2 =>
  lett (IntKind.i64.wrap (((a0.f2.getD v1.toNat (S_FontRange.mk 0 0 0)).f1) - ((a0.f2.getD v1.toNat (S_FontRange.mk 0 0 0)).f0))) fun z1 =>
  bif (decide (v2≤z1)) then
   bif ((IntKind.i64.wrap (((a0.f2.getD v1.toNat (S_FontRange.mk 0 0 0)).f0)+v2)) == a1) then
    some (.esc (IntKind.i64.wrap (((a0.f2.getD v1.toNat (S_FontRange.mk 0 0 0)).f2)+v2)))
   else
    ref3_GlyphOf_L2 F a0 a1 v1 n (IntKind.i64.wrap (v2+(1:Int)))
  else
   some (.go ())
def ref3_GlyphOf_L0 (F:Nat) (a0:S_Font) (a1:Int):Nat→Int→Option (Out Unit Int)
 | 0,_=>none
 | n+1,v1 =>
  bif (decide (v1 < (a0.f2.length:Int))) then
   chk (0≤v1∧v1 < a0.f2.length) <|
   callE (ref3_GlyphOf_L2 F a0 a1 v1 F (0:Int))
    (fun e=>some (.esc e)) fun _ =>
   ref3_GlyphOf_L0 F a0 a1 n (IntKind.i64.wrap (v1+(1:Int)))
  else
   some (.go ())
/-- printworks/printworksref3.GlyphOf -/
def ref3_GlyphOf (F:Nat) (a0:S_Font) (a1:Int):Option Int :=
 callE (ref3_GlyphOf_L0 F a0 a1 F (0:Int))
  (fun e=>some e) fun _ =>
 some (0:Int)
def ref3_Needed_L0 (F:Nat) (a0:S_Font) (a1:List Int):Nat→(List Bool)→Int→Option ((List Bool))
 | 0,_,_=>none
 | n+1,v1,v2 =>
  bif (decide (v2 < (a1.length:Int))) then
   chk (0≤v2∧v2 < a1.length) <|
   call (ref3_GlyphOf F a0 (a1.getD v2.toNat 0)) fun y1 =>
   chk ((0≤y1∧y1 < 128)∧y1 < v1.length) <|
   ref3_Needed_L0 F a0 a1 n (v1.set y1.toNat true) (IntKind.i64.wrap (v2+(1:Int)))
  else
   some v1
def ref3_Needed_L6 (F:Nat) (a0:S_Font) (v3:Int):Nat→(List Bool)→Int→Option ((List Bool))
 | 0,_,_=>none
 | n+1,v4,v5 =>
  bif (decide (v5 < (((a0.f1.getD v3.toNat (S_FontGlyph.mk 0 [] [])).f2).length:Int))) then
   chk (0≤v5∧v5 < ((a0.f1.getD v3.toNat (S_FontGlyph.mk 0 [] [])).f2).length) <|
   chk ((0≤((((a0.f1.getD v3.toNat (S_FontGlyph.mk 0 [] [])).f2).getD v5.toNat (S_FontPart.mk 0 0 0)).f0)∧((((a0.f1.getD v3.toNat (S_FontGlyph.mk 0 [] [])).f2).getD v5.toNat (S_FontPart.mk 0 0 0)).f0) < 128)∧((((a0.f1.getD v3.toNat (S_FontGlyph.mk 0 [] [])).f2).getD v5.toNat (S_FontPart.mk 0 0 0)).f0) < v4.length) <|
   lett ((v4.getD ((((a0.f1.getD v3.toNat (S_FontGlyph.mk 0 [] [])).f2).getD v5.toNat (S_FontPart.mk 0 0 0)).f0).toNat false)) fun z1 =>
   chk (((z1 == false) && true)=true→(0≤v3∧v3 < 128)∧v3 < v4.length) <|
   chk ((0≤((((a0.f1.getD v3.toNat (S_FontGlyph.mk 0 [] [])).f2).getD v5.toNat (S_FontPart.mk 0 0 0)).f0)∧((((a0.f1.getD v3.toNat (S_FontGlyph.mk 0 [] [])).f2).getD v5.toNat (S_FontPart.mk 0 0 0)).f0) < 128)∧((((a0.f1.getD v3.toNat (S_FontGlyph.mk 0 [] [])).f2).getD v5.toNat (S_FontPart.mk 0 0 0)).f0) < v4.length) <|
   ref3_Needed_L6 F a0 v3 n (v4.set ((((a0.f1.getD v3.toNat (S_FontGlyph.mk 0 [] [])).f2).getD v5.toNat (S_FontPart.mk 0 0 0)).f0).toNat (bif z1 then true else (v4.getD v3.toNat false))) (IntKind.i64.wrap (v5+(1:Int)))
  else
   some v4
def ref3_Needed_L4 (F:Nat) (a0:S_Font):Nat→(List Bool)→Int→Option ((List Bool))
 | 0,_,_=>none
 | n+1,v6,v3 =>
  bif (decide (v3 < (a0.f1.length:Int))) then
   chk (0≤v3∧v3 < a0.f1.length) <|
   call (ref3_Needed_L6 F a0 v3 F v6 (0:Int))
    fun v7 =>
   ref3_Needed_L4 F a0 n v7 (IntKind.i64.wrap (v3+(1:Int)))
  else
   some v6
def ref3_Needed_L2 (F:Nat) (a0:S_Font):Nat→(List Bool)→Int→Option ((List Bool))
 | 0,_,_=>none
 | n+1,v8,v9 =>
  bif (decide (v9 < (a0.f1.length:Int))) then
   call (ref3_Needed_L4 F a0 F v8 (0:Int))
    fun v10 =>
   ref3_Needed_L2 F a0 n v10 (IntKind.i64.wrap (v9+(1:Int)))
  else
   some v8
/-- printworks/printworksref3.Needed -/
def ref3_Needed (F:Nat) (a0:S_Font) (a1:List Int):Option ((List Bool)) :=
 chk ((0≤(0:Int)∧(0:Int) < 128)∧(0:Int) < (List.replicate 128 false).length) <|
 call (ref3_Needed_L0 F a0 a1 F ((List.replicate 128 false).set (0:Int).toNat true) (0:Int))
  fun v11 =>
 call (ref3_Needed_L2 F a0 F v11 (0:Int))
  fun v12 =>
 chk (v12.length=128) <|
 some v12
def slices_Equal_int_L0 (F:Nat) (a0:List Int) (a1:List Int):Nat→Int→Option (Out Unit Bool)
 | 0,_=>none
 | n+1,v1 =>
  bif (decide (v1 < (a0.length:Int))) then
   chk (0≤v1∧v1 < a0.length) <|
   chk (0≤v1∧v1 < a1.length) <|
   bif ((a0.getD v1.toNat 0) != (a1.getD v1.toNat 0)) then
    some (.esc false)
   else
    slices_Equal_int_L0 F a0 a1 n (IntKind.i64.wrap (v1+(1:Int)))
  else
   some (.go ())
/-- slices.Equal[[]int,int] -/
def slices_Equal_int (F:Nat) (a0:List Int) (a1:List Int):Option Bool :=
 bif ((a0.length:Int) != (a1.length:Int)) then
  some false
 else
  callE (slices_Equal_int_L0 F a0 a1 F (0:Int))
   (fun e=>some e) fun _ =>
  some true
def law3_FontSubsetGlyphs_L0 (F:Nat) (y1:(List Bool)):Nat→(List Int)→Int→Option ((List Int))
 | 0,_,_=>none
 | n+1,v1,v2 =>
  bif (decide (v2 < (128:Int))) then
   call (chk ((0≤v2∧v2 < 128)∧y1.length=128) <|
    bif (y1.getD v2.toNat false) then
     chk (v1.length+([v2]).length≤4294967296) <|
     some (v1++([v2]))
    else
     some v1)
    fun v3 =>
   law3_FontSubsetGlyphs_L0 F y1 n v3 (IntKind.i64.wrap (v2+(1:Int)))
  else
   some v1
/-- printworks/printworkslaw3.FontSubsetGlyphs -/
def law3_FontSubsetGlyphs (F:Nat) (a0:S_Font) (a1:List Int):Option Bool :=
 call (law3_fontFact F) fun y2 =>
 bif (!y2) then
  some false
 else
  call (font_Subset F a0 a1) fun y3 =>
  call (ref3_FontError F a0) fun y4 =>
  call (bif (bif (y4 == (0:Int)) then (decide ((a1.length:Int) > (1024:Int))) else false) then
    some (2:Int)
   else
    some y4)
   fun v4 =>
  bif (v4 != (0:Int)) then
   some (bif (y3.2.2 == v4) then ((y3.2.1.length:Int) == (0:Int)) else false)
  else
   bif (y3.2.2 != (0:Int)) then
    call (font_Encode F a0) fun y5 =>
    lett ((bif (decide ((a1.length:Int) > (64:Int))) then true else (decide ((y5.1.length:Int) > (3596:Int))))) fun z1 =>
    lett ((bif (bif (y3.2.2 == (2:Int)) then ((y3.2.1.length:Int) == (0:Int)) else false) then z1 else false)) fun z2 =>
    some z2
   else
    call (ref3_Needed F a0 a1) fun y1 =>
    call (law3_FontSubsetGlyphs_L0 F y1 F [] (0:Int))
     fun v5 =>
    call (slices_Equal_int F y3.2.1 v5) fun y6 =>
    some (bif y6 then ((y3.1.f1.length:Int) == (y3.2.1.length:Int)) else false)
end Go.Vm.SubG
