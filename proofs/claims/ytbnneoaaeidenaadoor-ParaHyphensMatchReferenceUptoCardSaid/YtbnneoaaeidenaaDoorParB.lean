import Derived.Shelf.Strings.Trim
import Derived.Test.YtbnneoaaeidenaaDoorProg
namespace Go.Proofs
open Go.Shelf
def Tryd.lays160_ren:Go.Shelf.Ren:=⟨fun | 160=>24 | 232=>31 | 231=>30 | 227=>32 | 234=>34 | 233=>33 | 236=>36 | 235=>35 | 228=>38 | 271=>41 | 151=>40 | 197=>39 | 120=>45 | 152=>44 | 260=>43 | 137=>46 | 119=>47 | 224=>48 | 225=>49 | 217=>50 | 266=>51 | n=>n,fun | 9=>9 | 4=>4 | 3=>3 | 5=>5 | 117=>82 | 116=>81 | 0=>0 | 124=>85 | 21=>21 | 105=>88 | 46=>95 | 119=>94 | 139=>98 | 138=>97 | n=>n,fun | 3=>0 | 4=>1 | n=>n⟩
theorem Tryd.lays160:Go.Proofs.Lays.n160 Tryd.prog Tryd.lays160_ren:={
  mixed:=by kernel_rfl
  f119:=Tryd.func47.trans (congrArg some (by kernel_rfl))
  f120:=Tryd.func45.trans (congrArg some (by kernel_rfl))
  f137:=Tryd.func46.trans (congrArg some (by kernel_rfl))
  f151:=Tryd.func40.trans (congrArg some (by kernel_rfl))
  f152:=Tryd.func44.trans (congrArg some (by kernel_rfl))
  f160:=Tryd.func24.trans (congrArg some (by kernel_rfl))
  f197:=Tryd.func39.trans (congrArg some (by kernel_rfl))
  f217:=Tryd.func50.trans (congrArg some (by kernel_rfl))
  f224:=Tryd.func48.trans (congrArg some (by kernel_rfl))
  f225:=Tryd.func49.trans (congrArg some (by kernel_rfl))
  f227:=Tryd.func32.trans (congrArg some (by kernel_rfl))
  f228:=Tryd.func38.trans (congrArg some (by kernel_rfl))
  f231:=Tryd.func30.trans (congrArg some (by kernel_rfl))
  f232:=Tryd.func31.trans (congrArg some (by kernel_rfl))
  f233:=Tryd.func33.trans (congrArg some (by kernel_rfl))
  f234:=Tryd.func34.trans (congrArg some (by kernel_rfl))
  f235:=Tryd.func35.trans (congrArg some (by kernel_rfl))
  f236:=Tryd.func36.trans (congrArg some (by kernel_rfl))
  f260:=Tryd.func43.trans (congrArg some (by kernel_rfl))
  f266:=Tryd.func51.trans (congrArg some (by kernel_rfl))
  f271:=Tryd.func41.trans (congrArg some (by kernel_rfl))
  t0:=Tryd.underlying0
  a0:=Tryd.isAgg0
  z0:=Tryd.sizeOf0
  v0:=Tryd.zeroValue0
  t3:=Tryd.underlying3
  a3:=Tryd.isAgg3
  z3:=Tryd.sizeOf3
  v3:=Tryd.zeroValue3
  t4:=Tryd.underlying4
  a4:=Tryd.isAgg4
  z4:=Tryd.sizeOf4
  v4:=Tryd.zeroValue4
  t5:=Tryd.underlying5
  a5:=Tryd.isAgg5
  z5:=Tryd.sizeOf5
  v5:=Tryd.zeroValue5
  t9:=Tryd.underlying9
  a9:=Tryd.isAgg9
  z9:=Tryd.sizeOf9
  v9:=Tryd.zeroValue9
  t21:=Tryd.underlying21
  a21:=Tryd.isAgg21
  z21:=Tryd.sizeOf21
  v21:=Tryd.zeroValue21
  t46:=Tryd.underlying95
  a46:=Tryd.isAgg95
  z46:=Tryd.sizeOf95
  v46:=Tryd.zeroValue95
  t105:=Tryd.underlying88
  a105:=Tryd.isAgg88
  z105:=Tryd.sizeOf88
  v105:=Tryd.zeroValue88
  t116:=Tryd.underlying81
  a116:=Tryd.isAgg81
  z116:=Tryd.sizeOf81
  t117:=Tryd.underlying82
  a117:=Tryd.isAgg82
  z117:=Tryd.sizeOf82
  v117:=Tryd.zeroValue82
  t119:=Tryd.underlying94
  a119:=Tryd.isAgg94
  z119:=Tryd.sizeOf94
  t124:=Tryd.underlying85
  a124:=Tryd.isAgg85
  z124:=Tryd.sizeOf85
  v124:=Tryd.zeroValue85
  t138:=Tryd.underlying97
  a138:=Tryd.isAgg97
  z138:=Tryd.sizeOf97
  v138:=Tryd.zeroValue97
  t139:=Tryd.underlying98
  a139:=Tryd.isAgg98
  z139:=Tryd.sizeOf98
  v139:=Tryd.zeroValue98
  g3:=by kernel_rfl
  g4:=by kernel_rfl }
open Go.RowKit in
/-- strings.Trim: "Trim returns a slice of the string s with all leading and trailing Unicode code points contained in cutset removed.": AT A cutset OF ONE ASCII BYTE. THE WORLD BEHIND IT: as it was,or (where s is not empty) with ONE DRAW MORE off the tape: the statement 'return trimLeftByte(trimRightByte(s,c),c)' draws its order of evaluation. (LAID: no walk: one application.) -/
theorem Tryd.strings_Trim_one (s:ByteArray) (c:UInt8) (hc:c.toNat < 128) (w:World) (hs:s.size≤9223372036854775807) :
    Calls Tryd.prog 24 #[.string s,.string ⟨#[c]⟩] w fun e w'=>e=.returned (.string ⟨(Lib.trimB s.data.toList c).toArray⟩)∧(w'=w∨w'=w.drew):=Any.strings_Trim_one Tryd.lays160 s c hc w hs
end Go.Proofs
