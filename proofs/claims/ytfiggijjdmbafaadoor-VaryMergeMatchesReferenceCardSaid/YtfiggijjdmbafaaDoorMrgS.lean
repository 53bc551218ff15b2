import Derived.Shelf.Strings.OnBuilder
import Derived.Shelf.Small.Utf8
import Derived.Shelf.Small.Strs
import Derived.Shelf.Strings.Replace
import Derived.Shelf.Strings.Runes
import Derived.Shelf.Strings.IndexAny
import Derived.Shelf.Strings.IndexAnyAll
import Derived.Test.YtfiggijjdmbafaaDoorProg
namespace Go.Proofs
open Go.Shelf
def Tryd.lays156_ren:Go.Shelf.Ren:=⟨fun | 156=>33 | 165=>43 | 166=>32 | 169=>21 | 240=>41 | 241=>51 | 276=>50 | 277=>54 | n=>n,fun | 31=>23 | 9=>9 | 3=>3 | 4=>4 | 0=>0 | 20=>20 | 72=>48 | 76=>67 | 70=>45 | 37=>46 | 75=>65 | 127=>63 | 164=>86 | 5=>5 | 80=>53 | n=>n,fun | n=>n⟩
theorem Tryd.lays156:Go.Proofs.Lays.n156 Tryd.prog Tryd.lays156_ren:={
  mixed:=by kernel_rfl
  f156:=Tryd.func33.trans (congrArg some (by kernel_rfl))
  f165:=Tryd.func43.trans (congrArg some (by kernel_rfl))
  f166:=Tryd.func32.trans (congrArg some (by kernel_rfl))
  f169:=Tryd.func21.trans (congrArg some (by kernel_rfl))
  f240:=Tryd.func41.trans (congrArg some (by kernel_rfl))
  f241:=Tryd.func51.trans (congrArg some (by kernel_rfl))
  f276:=Tryd.func50.trans (congrArg some (by kernel_rfl))
  f277:=Tryd.func54.trans (congrArg some (by kernel_rfl))
  t0:=Tryd.underlying0
  a0:=Tryd.isAgg0
  z0:=Tryd.sizeOf0
  v0:=Tryd.zeroValue0
  t3:=Tryd.underlying3
  a3:=Tryd.isAgg3
  z3:=Tryd.sizeOf3
  v3:=Tryd.zeroValue3
  t4:=Tryd.underlying4
  a4:=Tryd.isAgg4
  z4:=Tryd.sizeOf4
  v4:=Tryd.zeroValue4
  t9:=Tryd.underlying9
  a9:=Tryd.isAgg9
  z9:=Tryd.sizeOf9
  v9:=Tryd.zeroValue9
  t20:=Tryd.underlying20
  a20:=Tryd.isAgg20
  z20:=Tryd.sizeOf20
  v20:=Tryd.zeroValue20
  t31:=Tryd.underlying23
  a31:=Tryd.isAgg23
  z31:=Tryd.sizeOf23
  v31:=Tryd.zeroValue23
  t37:=Tryd.underlying46
  a37:=Tryd.isAgg46
  z37:=Tryd.sizeOf46
  v37:=Tryd.zeroValue46
  t70:=Tryd.underlying45
  a70:=Tryd.isAgg45
  z70:=Tryd.sizeOf45
  v70:=Tryd.zeroValue45
  t72:=Tryd.underlying48
  a72:=Tryd.isAgg48
  z72:=Tryd.sizeOf48
  v72:=Tryd.zeroValue48
  t75:=Tryd.underlying65
  a75:=Tryd.isAgg65
  z75:=Tryd.sizeOf65
  v75:=Tryd.zeroValue65
  t76:=Tryd.underlying67
  a76:=Tryd.isAgg67
  z76:=Tryd.sizeOf67
  v76:=Tryd.zeroValue67
  t127:=Tryd.underlying63
  a127:=Tryd.isAgg63
  z127:=Tryd.sizeOf63
  v127:=Tryd.zeroValue63
  t164:=Tryd.underlying86
  a164:=Tryd.isAgg86
  z164:=Tryd.sizeOf86
  v164:=Tryd.zeroValue86 }
theorem Tryd.Builder_Extra_156:Builder.Extra Tryd.prog Tryd.lays156_ren:={
  sizeBuilder:=by kernel_rfl
  liesBuilder:=by kernel_rfl
  t5:=Tryd.underlying5
  a5:=Tryd.isAgg5
  z5:=Tryd.sizeOf5
  v5:=Tryd.zeroValue5
  infoByte:=by kernel_rfl
  cellsByte:=by kernel_rfl
  sizeByte:=by kernel_rfl
  neB5:=by decide }
open Go.RowKit in
/-- No element: the empty string; the world is as it was. (Whatever the slice's address and capacity: a nil slice too.) (LAID: no walk: one application.) -/
theorem Tryd.strings_Join_none (a:Option Addr) (c:Nat) (sep:ByteArray) (w:World) :
    Calls Tryd.prog 33 #[.slice a 0 c,.string sep] w fun e w'=>e=.returned (.string ⟨#[]⟩)∧w'=w:=Any.strings_Join_none Tryd.lays156 Tryd.Builder_Extra_156 a c sep w
open Go.RowKit in
/-- strings.Join: "Join concatenates the elements of its first argument to create a single string. The separator string sep is placed between elements in the resulting string.": HOWEVER MANY ELEMENTS. Below the heap's end the world is as it was. (LAID: no walk: one application.) -/
theorem Tryd.strings_Join (bk o c:Nat) (xs:List ByteArray) (sep:ByteArray) (w:World) (hcells:∀ (j:Nat) x,xs[j]? = some x→w.cell? ⟨bk,o+j,none⟩=some (.string x)) (hbk:bk < w.heap.size) (hN:xs.length≤140737488355328) (hcap:xs.length≤c) (hlen:(Lib.join (xs.map (·.data.toList)) sep.data.toList).length≤140737488355328) :
    Calls Tryd.prog 33 #[.slice (some ⟨bk,o,none⟩) xs.length c,.string sep] w fun e w'=>e=.returned (.string ⟨(Lib.join (xs.map (·.data.toList)) sep.data.toList).toArray⟩)∧Below w.heap.size w w':=Any.strings_Join Tryd.lays156 Tryd.Builder_Extra_156 bk o c xs sep w hcells hbk hN hcap hlen
def Tryd.lays119_ren:Go.Shelf.Ren:=⟨fun | 119=>47 | n=>n,fun | 21=>21 | 4=>4 | n=>n,fun | n=>n⟩
theorem Tryd.lays119:Go.Proofs.Lays.n119 Tryd.prog Tryd.lays119_ren:={
  mixed:=by kernel_rfl
  f119:=Tryd.func47.trans (congrArg some (by kernel_rfl))
  t4:=Tryd.underlying4
  a4:=Tryd.isAgg4
  z4:=Tryd.sizeOf4
  v4:=Tryd.zeroValue4
  t21:=Tryd.underlying21
  a21:=Tryd.isAgg21
  z21:=Tryd.sizeOf21
  v21:=Tryd.zeroValue21 }
/-- utf8.ValidRune: "ValidRune reports whether r can be legally encoded as UTF-8. Code points that are out of range or a surrogate half are illegal.": IT RETURNS 'Lib.validRune r'; the world is as it was. (LAID: no walk: one application.) -/
theorem Tryd.utf8_ValidRune (r:Int) (w:World) :
    Calls Tryd.prog 47 #[.int .i32 r] w fun e w'=>e=.returned (.bool (Lib.validRune r))∧w'=w:=Any.utf8_ValidRune Tryd.lays119 r w
def Tryd.lays137_ren:Go.Shelf.Ren:=⟨fun | 137=>46 | 217=>53 | 266=>58 | n=>n,fun | 9=>9 | 5=>5 | 3=>3 | n=>n,fun | n=>n⟩
theorem Tryd.lays137:Go.Proofs.Lays.n137 Tryd.prog Tryd.lays137_ren:={
  mixed:=by kernel_rfl
  f137:=Tryd.func46.trans (congrArg some (by kernel_rfl))
  f217:=Tryd.func53.trans (congrArg some (by kernel_rfl))
  f266:=Tryd.func58.trans (congrArg some (by kernel_rfl))
  t3:=Tryd.underlying3
  a3:=Tryd.isAgg3
  z3:=Tryd.sizeOf3
  v3:=Tryd.zeroValue3
  t5:=Tryd.underlying5
  a5:=Tryd.isAgg5
  z5:=Tryd.sizeOf5
  v5:=Tryd.zeroValue5
  t9:=Tryd.underlying9
  a9:=Tryd.isAgg9
  z9:=Tryd.sizeOf9
  v9:=Tryd.zeroValue9 }
open Go.RowKit in
/-- strings.IndexByte: "IndexByte returns the index of the first instance of c in s,or -1 if c is not present in s.": IT RETURNS 'Lib.indexByte s c'; the world is as it was. (LAID: no walk: one application.) -/
theorem Tryd.strings_IndexByte (s:ByteArray) (c:Int) (w:World) :
    Calls Tryd.prog 46 #[.string s,.int .u8 c] w fun e w'=>e=.returned (.int .i64 (Lib.indexByte s.data.toList c.toNat.toUInt8))∧w'=w:=Any.strings_IndexByte Tryd.lays137 s c w
def Tryd.lays155_ren:Go.Shelf.Ren:=⟨fun | 155=>45 | 154=>52 | 138=>55 | 165=>43 | 143=>56 | 166=>32 | 197=>57 | 169=>21 | 195=>59 | 218=>60 | 240=>41 | 241=>51 | 219=>61 | 260=>62 | 276=>50 | 277=>54 | 217=>53 | 225=>49 | 224=>48 | 267=>63 | 266=>58 | 314=>64 | n=>n,fun | 9=>9 | 3=>3 | 4=>4 | 72=>48 | 0=>0 | 76=>67 | 105=>90 | 21=>21 | 5=>5 | 70=>45 | 20=>20 | 37=>46 | 75=>65 | 127=>63 | 164=>86 | 46=>84 | 119=>92 | 139=>95 | 138=>94 | 146=>97 | 51=>96 | 80=>53 | n=>n,fun | 1=>0 | 3=>1 | 4=>2 | n=>n⟩
theorem Tryd.lays155:Go.Proofs.Lays.n155 Tryd.prog Tryd.lays155_ren:={
  mixed:=by kernel_rfl
  f138:=Tryd.func55.trans (congrArg some (by kernel_rfl))
  f143:=Tryd.func56.trans (congrArg some (by kernel_rfl))
  f154:=Tryd.func52.trans (congrArg some (by kernel_rfl))
  f155:=Tryd.func45.trans (congrArg some (by kernel_rfl))
  f165:=Tryd.func43.trans (congrArg some (by kernel_rfl))
  f166:=Tryd.func32.trans (congrArg some (by kernel_rfl))
  f169:=Tryd.func21.trans (congrArg some (by kernel_rfl))
  f195:=Tryd.func59.trans (congrArg some (by kernel_rfl))
  f197:=Tryd.func57.trans (congrArg some (by kernel_rfl))
  f217:=Tryd.func53.trans (congrArg some (by kernel_rfl))
  f218:=Tryd.func60.trans (congrArg some (by kernel_rfl))
  f219:=Tryd.func61.trans (congrArg some (by kernel_rfl))
  f224:=Tryd.func48.trans (congrArg some (by kernel_rfl))
  f225:=Tryd.func49.trans (congrArg some (by kernel_rfl))
  f240:=Tryd.func41.trans (congrArg some (by kernel_rfl))
  f241:=Tryd.func51.trans (congrArg some (by kernel_rfl))
  f260:=Tryd.func62.trans (congrArg some (by kernel_rfl))
  f266:=Tryd.func58.trans (congrArg some (by kernel_rfl))
  f267:=Tryd.func63.trans (congrArg some (by kernel_rfl))
  f276:=Tryd.func50.trans (congrArg some (by kernel_rfl))
  f277:=Tryd.func54.trans (congrArg some (by kernel_rfl))
  f314:=Tryd.func64.trans (congrArg some (by kernel_rfl))
  t0:=Tryd.underlying0
  a0:=Tryd.isAgg0
  z0:=Tryd.sizeOf0
  v0:=Tryd.zeroValue0
  t3:=Tryd.underlying3
  a3:=Tryd.isAgg3
  z3:=Tryd.sizeOf3
  v3:=Tryd.zeroValue3
  t4:=Tryd.underlying4
  a4:=Tryd.isAgg4
  z4:=Tryd.sizeOf4
  v4:=Tryd.zeroValue4
  t5:=Tryd.underlying5
  a5:=Tryd.isAgg5
  z5:=Tryd.sizeOf5
  v5:=Tryd.zeroValue5
  t9:=Tryd.underlying9
  a9:=Tryd.isAgg9
  z9:=Tryd.sizeOf9
  v9:=Tryd.zeroValue9
  t20:=Tryd.underlying20
  a20:=Tryd.isAgg20
  z20:=Tryd.sizeOf20
  v20:=Tryd.zeroValue20
  t21:=Tryd.underlying21
  a21:=Tryd.isAgg21
  z21:=Tryd.sizeOf21
  v21:=Tryd.zeroValue21
  t37:=Tryd.underlying46
  a37:=Tryd.isAgg46
  z37:=Tryd.sizeOf46
  v37:=Tryd.zeroValue46
  t46:=Tryd.underlying84
  a46:=Tryd.isAgg84
  z46:=Tryd.sizeOf84
  v46:=Tryd.zeroValue84
  t51:=Tryd.underlying96
  a51:=Tryd.isAgg96
  z51:=Tryd.sizeOf96
  v51:=Tryd.zeroValue96
  t70:=Tryd.underlying45
  a70:=Tryd.isAgg45
  z70:=Tryd.sizeOf45
  v70:=Tryd.zeroValue45
  t72:=Tryd.underlying48
  a72:=Tryd.isAgg48
  z72:=Tryd.sizeOf48
  v72:=Tryd.zeroValue48
  t75:=Tryd.underlying65
  a75:=Tryd.isAgg65
  z75:=Tryd.sizeOf65
  v75:=Tryd.zeroValue65
  t76:=Tryd.underlying67
  a76:=Tryd.isAgg67
  z76:=Tryd.sizeOf67
  v76:=Tryd.zeroValue67
  t105:=Tryd.underlying90
  a105:=Tryd.isAgg90
  z105:=Tryd.sizeOf90
  v105:=Tryd.zeroValue90
  t119:=Tryd.underlying92
  a119:=Tryd.isAgg92
  z119:=Tryd.sizeOf92
  t127:=Tryd.underlying63
  a127:=Tryd.isAgg63
  z127:=Tryd.sizeOf63
  v127:=Tryd.zeroValue63
  t138:=Tryd.underlying94
  a138:=Tryd.isAgg94
  z138:=Tryd.sizeOf94
  v138:=Tryd.zeroValue94
  t139:=Tryd.underlying95
  a139:=Tryd.isAgg95
  z139:=Tryd.sizeOf95
  v139:=Tryd.zeroValue95
  t146:=Tryd.underlying97
  a146:=Tryd.isAgg97
  z146:=Tryd.sizeOf97
  v146:=Tryd.zeroValue97
  t164:=Tryd.underlying86
  a164:=Tryd.isAgg86
  z164:=Tryd.sizeOf86
  v164:=Tryd.zeroValue86
  g1:=by kernel_rfl
  g3:=by kernel_rfl
  g4:=by kernel_rfl }
theorem Tryd.Builder_Extra_155:Builder.Extra Tryd.prog Tryd.lays155_ren:={
  sizeBuilder:=by kernel_rfl
  liesBuilder:=by kernel_rfl
  t5:=Tryd.underlying5
  a5:=Tryd.isAgg5
  z5:=Tryd.sizeOf5
  v5:=Tryd.zeroValue5
  infoByte:=by kernel_rfl
  cellsByte:=by kernel_rfl
  sizeByte:=by kernel_rfl
  neB5:=by decide }
open Go.RowKit Go.Lib in
/-- strings.ReplaceAll: "ReplaceAll returns a copy of the string s with all non-overlapping instances of old replaced by new.": AT AN old THAT IS NOT EMPTY: 'Lib.replaceAll s old new'. (LAID: no walk: one application.) -/
theorem Tryd.strings_ReplaceAll (s old new:ByteArray) (m:Int) (w:World) (hs:s.size < 4294967281) (hm:w.cell? ⟨0,0,none⟩=some (.int .i64 m)) (h1:1≤old.size) (hlen:s.size+Lib.countB s old * new.size≤140737488355328) :
    Calls Tryd.prog 45 #[.string s,.string old,.string new] w fun e w' =>
      e=.returned (.string ⟨(Lib.replaceAll s.data.toList old.data.toList new.data.toList).toArray⟩)∧Below w.heap.size w w':=Any.strings_ReplaceAll Tryd.lays155 Tryd.Builder_Extra_155 s old new m w hs hm h1 hlen
def Tryd.lays152_ren:Go.Shelf.Ren:=⟨fun | 152=>35 | 137=>46 | 119=>47 | 224=>48 | 225=>49 | 217=>53 | 266=>58 | n=>n,fun | 9=>9 | 21=>21 | 3=>3 | 4=>4 | 5=>5 | 0=>0 | 46=>84 | n=>n,fun | n=>n⟩
theorem Tryd.lays152:Go.Proofs.Lays.n152 Tryd.prog Tryd.lays152_ren:={
  mixed:=by kernel_rfl
  f119:=Tryd.func47.trans (congrArg some (by kernel_rfl))
  f137:=Tryd.func46.trans (congrArg some (by kernel_rfl))
  f152:=Tryd.func35.trans (congrArg some (by kernel_rfl))
  f217:=Tryd.func53.trans (congrArg some (by kernel_rfl))
  f224:=Tryd.func48.trans (congrArg some (by kernel_rfl))
  f225:=Tryd.func49.trans (congrArg some (by kernel_rfl))
  f266:=Tryd.func58.trans (congrArg some (by kernel_rfl))
  t0:=Tryd.underlying0
  a0:=Tryd.isAgg0
  z0:=Tryd.sizeOf0
  v0:=Tryd.zeroValue0
  t3:=Tryd.underlying3
  a3:=Tryd.isAgg3
  z3:=Tryd.sizeOf3
  v3:=Tryd.zeroValue3
  t4:=Tryd.underlying4
  a4:=Tryd.isAgg4
  z4:=Tryd.sizeOf4
  v4:=Tryd.zeroValue4
  t5:=Tryd.underlying5
  a5:=Tryd.isAgg5
  z5:=Tryd.sizeOf5
  v5:=Tryd.zeroValue5
  t9:=Tryd.underlying9
  a9:=Tryd.isAgg9
  z9:=Tryd.sizeOf9
  v9:=Tryd.zeroValue9
  t21:=Tryd.underlying21
  a21:=Tryd.isAgg21
  z21:=Tryd.sizeOf21
  v21:=Tryd.zeroValue21
  t46:=Tryd.underlying84
  a46:=Tryd.isAgg84
  z46:=Tryd.sizeOf84
  v46:=Tryd.zeroValue84 }
open Go.RowKit Go.Lib in
theorem Tryd.strings_IndexRune_ascii (s:ByteArray) (r:Int) (w:World) (h0:0≤r) (h1:r < 128) :
    Calls Tryd.prog 35 #[.string s,.int .i32 r] w fun e w'=>e=.returned (.int .i64 (Lib.indexByte s.data.toList r.toNat.toUInt8))∧w'=w:=Any.strings_IndexRune_ascii Tryd.lays152 s r w h0 h1
def Tryd.lays226_ren:Go.Shelf.Ren:=⟨fun | 226=>36 | n=>n,fun | 3=>3 | 4=>4 | n=>n,fun | n=>n⟩
theorem Tryd.lays226:Go.Proofs.Lays.n226 Tryd.prog Tryd.lays226_ren:={
  mixed:=by kernel_rfl
  f226:=Tryd.func36.trans (congrArg some (by kernel_rfl))
  t3:=Tryd.underlying3
  a3:=Tryd.isAgg3
  z3:=Tryd.sizeOf3
  v3:=Tryd.zeroValue3
  t4:=Tryd.underlying4
  a4:=Tryd.isAgg4
  z4:=Tryd.sizeOf4
  v4:=Tryd.zeroValue4 }
open Go.RowKit Go.Lib in
theorem Tryd.strings_shouldUseASCIISet (n:Int) (w:World) :
    Calls Tryd.prog 36 #[.int .i64 n] w fun e w'=>e=.returned (.bool (decide (8 < n)))∧w'=w:=Any.strings_shouldUseASCIISet Tryd.lays226 n w
def Tryd.lays153_ren:Go.Shelf.Ren:=⟨fun | 153=>25 | 152=>35 | 226=>36 | 227=>37 | 228=>38 | 137=>46 | 119=>47 | 224=>48 | 225=>49 | 217=>53 | 266=>58 | n=>n,fun | 9=>9 | 3=>3 | 4=>4 | 5=>5 | 21=>21 | 117=>75 | 116=>74 | 0=>0 | 46=>84 | 124=>85 | n=>n,fun | n=>n⟩
theorem Tryd.lays153:Go.Proofs.Lays.n153 Tryd.prog Tryd.lays153_ren:={
  mixed:=by kernel_rfl
  f119:=Tryd.func47.trans (congrArg some (by kernel_rfl))
  f137:=Tryd.func46.trans (congrArg some (by kernel_rfl))
  f152:=Tryd.func35.trans (congrArg some (by kernel_rfl))
  f153:=Tryd.func25.trans (congrArg some (by kernel_rfl))
  f217:=Tryd.func53.trans (congrArg some (by kernel_rfl))
  f224:=Tryd.func48.trans (congrArg some (by kernel_rfl))
  f225:=Tryd.func49.trans (congrArg some (by kernel_rfl))
  f226:=Tryd.func36.trans (congrArg some (by kernel_rfl))
  f227:=Tryd.func37.trans (congrArg some (by kernel_rfl))
  f228:=Tryd.func38.trans (congrArg some (by kernel_rfl))
  f266:=Tryd.func58.trans (congrArg some (by kernel_rfl))
  t0:=Tryd.underlying0
  a0:=Tryd.isAgg0
  z0:=Tryd.sizeOf0
  v0:=Tryd.zeroValue0
  t3:=Tryd.underlying3
  a3:=Tryd.isAgg3
  z3:=Tryd.sizeOf3
  v3:=Tryd.zeroValue3
  t4:=Tryd.underlying4
  a4:=Tryd.isAgg4
  z4:=Tryd.sizeOf4
  v4:=Tryd.zeroValue4
  t5:=Tryd.underlying5
  a5:=Tryd.isAgg5
  z5:=Tryd.sizeOf5
  v5:=Tryd.zeroValue5
  t9:=Tryd.underlying9
  a9:=Tryd.isAgg9
  z9:=Tryd.sizeOf9
  v9:=Tryd.zeroValue9
  t21:=Tryd.underlying21
  a21:=Tryd.isAgg21
  z21:=Tryd.sizeOf21
  v21:=Tryd.zeroValue21
  t46:=Tryd.underlying84
  a46:=Tryd.isAgg84
  z46:=Tryd.sizeOf84
  v46:=Tryd.zeroValue84
  t116:=Tryd.underlying74
  a116:=Tryd.isAgg74
  z116:=Tryd.sizeOf74
  t117:=Tryd.underlying75
  a117:=Tryd.isAgg75
  z117:=Tryd.sizeOf75
  v117:=Tryd.zeroValue75
  t124:=Tryd.underlying85
  a124:=Tryd.isAgg85
  z124:=Tryd.sizeOf85
  v124:=Tryd.zeroValue85 }
open Go.RowKit Go.Lib in
theorem Tryd.strings_IndexAny_long (hv116:∀ w,(zeroValue 74).run Tryd.prog w=.ok (.agg (Array.replicate 256 (.bool false))) w) (s chars:ByteArray) (w:World) (h2:2≤chars.size) (h8:8 < s.size) (hs:s.size < 4294967281) (hcs:chars.size < 4294967281) (hascii:∀ (j:Nat) b,chars.data.toList[j]? = some b→b.toNat < 128) :
    Calls Tryd.prog 25 #[.string s,.string chars] w fun e w'=>e=.returned (.int .i64 (Lib.indexAny s.data.toList chars.data.toList))∧w'=((w.alloc (.cells (Lib.setCells chars.data.toList) 74)).alloc (.cells (Lib.setCells chars.data.toList) 74)):=Any.strings_IndexAny_long Tryd.lays153 hv116 (by kernel_rfl) s chars w h2 h8 hs hcs hascii
end Go.Proofs
