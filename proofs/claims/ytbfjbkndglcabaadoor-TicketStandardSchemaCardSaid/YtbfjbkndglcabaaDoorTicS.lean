import Derived.Shelf.Small.Strs
import Derived.Shelf.Strconv.Itoa3
import Derived.Test.YtbfjbkndglcabaaDoorProg
namespace Go.Proofs
open Go.Shelf
def Tryd.lays137_ren:Go.Shelf.Ren:=⟨fun | 137=>64 | 217=>77 | 266=>85 | n=>n,fun | 9=>9 | 5=>5 | 3=>3 | n=>n,fun | n=>n⟩
theorem Tryd.lays137:Go.Proofs.Lays.n137 Tryd.prog Tryd.lays137_ren:={
  mixed:=by kernel_rfl
  f137:=Tryd.func64.trans (congrArg some (by kernel_rfl))
  f217:=Tryd.func77.trans (congrArg some (by kernel_rfl))
  f266:=Tryd.func85.trans (congrArg some (by kernel_rfl))
  t3:=Tryd.underlying3
  a3:=Tryd.isAgg3
  z3:=Tryd.sizeOf3
  v3:=Tryd.zeroValue3
  t5:=Tryd.underlying5
  a5:=Tryd.isAgg5
  z5:=Tryd.sizeOf5
  v5:=Tryd.zeroValue5
  t9:=Tryd.underlying9
  a9:=Tryd.isAgg9
  z9:=Tryd.sizeOf9
  v9:=Tryd.zeroValue9 }
open Go.RowKit in
/-- strings.IndexByte: "IndexByte returns the index of the first instance of c in s,or -1 if c is not present in s.": IT RETURNS 'Lib.indexByte s c'; the world is as it was. (LAID: no walk: one application.) -/
theorem Tryd.strings_IndexByte (s:ByteArray) (c:Int) (w:World) :
    Calls Tryd.prog 64 #[.string s,.int .u8 c] w fun e w'=>e=.returned (.int .i64 (Lib.indexByte s.data.toList c.toNat.toUInt8))∧w'=w:=Any.strings_IndexByte Tryd.lays137 s c w
def Tryd.laysM171_ren:Go.Shelf.Ren:=⟨fun | 171=>40 | 243=>51 | 246=>63 | 283=>73 | 284=>74 | 285=>75 | 286=>76 | 129=>81 | 317=>80 | 318=>82 | 319=>83 | 320=>84 | 337=>86 | 338=>87 | n=>n,fun | 3=>3 | 9=>9 | 2=>2 | 4=>4 | 171=>103 | 0=>0 | 53=>104 | 37=>57 | 5=>5 | 173=>107 | 212=>114 | 51=>115 | 20=>20 | 213=>116 | 46=>101 | 232=>120 | 233=>121 | n=>n,fun | 17=>0 | 18=>2 | 19=>3 | n=>n⟩
theorem Tryd.laysM171:Go.Proofs.LaysM.n171 Tryd.prog Tryd.laysM171_ren:={
  mixed:=by kernel_rfl
  f129:=Tryd.func81.trans (congrArg some (by kernel_rfl))
  f171:=Tryd.func40.trans (congrArg some (by kernel_rfl))
  f243:=Tryd.func51.trans (congrArg some (by kernel_rfl))
  f246:=Tryd.func63.trans (congrArg some (by kernel_rfl))
  f283:=Tryd.func73.trans (congrArg some (by kernel_rfl))
  f284:=Tryd.func74.trans (congrArg some (by kernel_rfl))
  f285:=Tryd.func75.trans (congrArg some (by kernel_rfl))
  f286:=Tryd.func76.trans (congrArg some (by kernel_rfl))
  f317:=Tryd.func80.trans (congrArg some (by kernel_rfl))
  f318:=Tryd.func82.trans (congrArg some (by kernel_rfl))
  f319:=Tryd.func83.trans (congrArg some (by kernel_rfl))
  f320:=Tryd.func84.trans (congrArg some (by kernel_rfl))
  f337:=Tryd.func86.trans (congrArg some (by kernel_rfl))
  f338:=Tryd.func87.trans (congrArg some (by kernel_rfl))
  t0:=Tryd.underlying0
  a0:=Tryd.isAgg0
  z0:=Tryd.sizeOf0
  v0:=Tryd.zeroValue0
  t2:=Tryd.underlying2
  a2:=Tryd.isAgg2
  z2:=Tryd.sizeOf2
  v2:=Tryd.zeroValue2
  t3:=Tryd.underlying3
  a3:=Tryd.isAgg3
  z3:=Tryd.sizeOf3
  v3:=Tryd.zeroValue3
  t4:=Tryd.underlying4
  a4:=Tryd.isAgg4
  z4:=Tryd.sizeOf4
  v4:=Tryd.zeroValue4
  t5:=Tryd.underlying5
  a5:=Tryd.isAgg5
  z5:=Tryd.sizeOf5
  v5:=Tryd.zeroValue5
  t9:=Tryd.underlying9
  a9:=Tryd.isAgg9
  z9:=Tryd.sizeOf9
  v9:=Tryd.zeroValue9
  t20:=Tryd.underlying20
  a20:=Tryd.isAgg20
  z20:=Tryd.sizeOf20
  v20:=Tryd.zeroValue20
  t37:=Tryd.underlying57
  a37:=Tryd.isAgg57
  z37:=Tryd.sizeOf57
  v37:=Tryd.zeroValue57
  t46:=Tryd.underlying101
  a46:=Tryd.isAgg101
  z46:=Tryd.sizeOf101
  v46:=Tryd.zeroValue101
  t51:=Tryd.underlying115
  a51:=Tryd.isAgg115
  z51:=Tryd.sizeOf115
  v51:=Tryd.zeroValue115
  t53:=Tryd.underlying104
  a53:=Tryd.isAgg104
  z53:=Tryd.sizeOf104
  v53:=Tryd.zeroValue104
  t171:=Tryd.underlying103
  a171:=Tryd.isAgg103
  z171:=Tryd.sizeOf103
  v171:=Tryd.zeroValue103
  t173:=Tryd.underlying107
  a173:=Tryd.isAgg107
  z173:=Tryd.sizeOf107
  v173:=Tryd.zeroValue107
  t212:=Tryd.underlying114
  a212:=Tryd.isAgg114
  z212:=Tryd.sizeOf114
  v212:=Tryd.zeroValue114
  t213:=Tryd.underlying116
  a213:=Tryd.isAgg116
  z213:=Tryd.sizeOf116
  t232:=Tryd.underlying120
  a232:=Tryd.isAgg120
  z232:=Tryd.sizeOf120
  v232:=Tryd.zeroValue120
  t233:=Tryd.underlying121
  a233:=Tryd.isAgg121
  z233:=Tryd.sizeOf121
  v233:=Tryd.zeroValue121
  g17:=by kernel_rfl
  g18:=by kernel_rfl
  g19:=by kernel_rfl
  i0:=by kernel_rfl
  i2:=by kernel_rfl
  i3:=by kernel_rfl
  i4:=by kernel_rfl
  i5:=by kernel_rfl
  i9:=by kernel_rfl
  i20:=by kernel_rfl
  i37:=by kernel_rfl
  i46:=by kernel_rfl
  i51:=by kernel_rfl
  i53:=by kernel_rfl
  i171:=by kernel_rfl
  i173:=by kernel_rfl
  i212:=by kernel_rfl
  i232:=by kernel_rfl
  i233:=by kernel_rfl
  m17:=by kernel_rfl
  m18:=by kernel_rfl
  m19:=by kernel_rfl }
open Go.RowKit Go.Sort Go.Lib in
/-- strconv.Itoa: "Itoa is equivalent to FormatInt(int64(i),10).": i's DECIMAL NUMERAL ('Lib.itoa': a '-' where i is negative,then the digits),FOR EVERY int. The world behind the call: the world before it,new blocks behind the heap (the library's 'var a [24]byte'),draws. (LAID: no walk: one application.) -/
theorem Tryd.strconv_Itoa (n : Int) (h0 : -9223372036854775808 ≤ n) (h1 : n ≤ 9223372036854775807) (w : World) (htab : Lib.TabIs Tryd.prog w "internal/strconv.uint64pow10" .u64 Lib.pow10Tab) :
    Calls Tryd.prog 40 #[.int .i64 n] w fun e w'=>e=.returned (.string ⟨(Lib.itoa n).toArray⟩)∧∃ k os,w'=grow (w.drewN k) os:=Any.strconv_Itoa Tryd.laysM171 n h0 h1 w htab
end Go.Proofs
