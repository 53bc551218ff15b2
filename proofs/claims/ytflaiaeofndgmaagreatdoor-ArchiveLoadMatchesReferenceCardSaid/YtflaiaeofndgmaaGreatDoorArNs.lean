import Derived.Shelf.Strings.Search2
import Derived.Shelf.Strings.Search3
import Derived.Shelf.Strings.Count
import Derived.Test.YtflaiaeofndgmaaGreatDoorProg
namespace Go.Proofs
open Go.Shelf
def Tryz.lays219_ren:Go.Shelf.Ren:=⟨fun | 219=>57 | 217=>68 | 225=>69 | 224=>70 | 267=>71 | 266=>79 | 314=>80 | n=>n,fun | 9=>9 | 3=>3 | 4=>4 | 5=>5 | 46=>97 | 146=>122 | 51=>56 | n=>n,fun | 1=>1 | n=>n⟩
theorem Tryz.lays219:Go.Proofs.Lays.n219 Tryz.prog Tryz.lays219_ren:={
 mixed:=by kernel_rfl
 f217:=Tryz.func68.trans (congrArg some (by kernel_rfl))
 f219:=Tryz.func57.trans (congrArg some (by kernel_rfl))
 f224:=Tryz.func70.trans (congrArg some (by kernel_rfl))
 f225:=Tryz.func69.trans (congrArg some (by kernel_rfl))
 f266:=Tryz.func79.trans (congrArg some (by kernel_rfl))
 f267:=Tryz.func71.trans (congrArg some (by kernel_rfl))
 f314:=Tryz.func80.trans (congrArg some (by kernel_rfl))
 t3:=Tryz.underlying3
 a3:=Tryz.isAgg3
 z3:=Tryz.sizeOf3
 v3:=Tryz.zeroValue3
 t4:=Tryz.underlying4
 a4:=Tryz.isAgg4
 z4:=Tryz.sizeOf4
 v4:=Tryz.zeroValue4
 t5:=Tryz.underlying5
 a5:=Tryz.isAgg5
 z5:=Tryz.sizeOf5
 v5:=Tryz.zeroValue5
 t9:=Tryz.underlying9
 a9:=Tryz.isAgg9
 z9:=Tryz.sizeOf9
 v9:=Tryz.zeroValue9
 t46:=Tryz.underlying97
 a46:=Tryz.isAgg97
 z46:=Tryz.sizeOf97
 v46:=Tryz.zeroValue97
 t51:=Tryz.underlying56
 a51:=Tryz.isAgg56
 z51:=Tryz.sizeOf56
 v51:=Tryz.zeroValue56
 t146:=Tryz.underlying122
 a146:=Tryz.isAgg122
 z146:=Tryz.sizeOf122
 v146:=Tryz.zeroValue122
 g1:=by kernel_rfl }
open Go.RowKit Go.Lib in
/-- internal/stringslite.Index (what strings.Index calls) AT A substr OF ONE BYTE c: IT RETURNS 'Lib.indexByte s c'; the world is as it was. (LAID: no walk: one application.) -/
theorem Tryz.stringslite_Index_one (s:ByteArray) (c:UInt8) (w:World) :
  Calls Tryz.prog 57 #[.string s,.string ⟨#[c]⟩] w fun e w'=>e=.returned (.int .i64 (Lib.indexByte s.data.toList c))∧w'=w:=Any.stringslite_Index_one Tryz.lays219 s c w
def Tryz.lays143_ren:Go.Shelf.Ren:=⟨fun | 143=>60 | 219=>57 | 217=>68 | 225=>69 | 224=>70 | 267=>71 | 266=>79 | 314=>80 | n=>n,fun | 9=>9 | 3=>3 | 4=>4 | 5=>5 | 46=>97 | 146=>122 | 51=>56 | n=>n,fun | 1=>1 | n=>n⟩
theorem Tryz.lays143:Go.Proofs.Lays.n143 Tryz.prog Tryz.lays143_ren:={
 mixed:=by kernel_rfl
 f143:=Tryz.func60.trans (congrArg some (by kernel_rfl))
 f217:=Tryz.func68.trans (congrArg some (by kernel_rfl))
 f219:=Tryz.func57.trans (congrArg some (by kernel_rfl))
 f224:=Tryz.func70.trans (congrArg some (by kernel_rfl))
 f225:=Tryz.func69.trans (congrArg some (by kernel_rfl))
 f266:=Tryz.func79.trans (congrArg some (by kernel_rfl))
 f267:=Tryz.func71.trans (congrArg some (by kernel_rfl))
 f314:=Tryz.func80.trans (congrArg some (by kernel_rfl))
 t3:=Tryz.underlying3
 a3:=Tryz.isAgg3
 z3:=Tryz.sizeOf3
 v3:=Tryz.zeroValue3
 t4:=Tryz.underlying4
 a4:=Tryz.isAgg4
 z4:=Tryz.sizeOf4
 v4:=Tryz.zeroValue4
 t5:=Tryz.underlying5
 a5:=Tryz.isAgg5
 z5:=Tryz.sizeOf5
 v5:=Tryz.zeroValue5
 t9:=Tryz.underlying9
 a9:=Tryz.isAgg9
 z9:=Tryz.sizeOf9
 v9:=Tryz.zeroValue9
 t46:=Tryz.underlying97
 a46:=Tryz.isAgg97
 z46:=Tryz.sizeOf97
 v46:=Tryz.zeroValue97
 t51:=Tryz.underlying56
 a51:=Tryz.isAgg56
 z51:=Tryz.sizeOf56
 v51:=Tryz.zeroValue56
 t146:=Tryz.underlying122
 a146:=Tryz.isAgg122
 z146:=Tryz.sizeOf122
 v146:=Tryz.zeroValue122
 g1:=by kernel_rfl }
open Go.RowKit Go.Lib in
/-- strings.Index: "Index returns the index of the first instance of substr in s,or -1 if substr is not present in s.": AT A substr OF ONE BYTE c: IT RETURNS 'Lib.indexByte s c'; the world is as it was. (LAID: no walk: one application.) -/
theorem Tryz.strings_Index_one (s:ByteArray) (c:UInt8) (w:World) :
  Calls Tryz.prog 60 #[.string s,.string ⟨#[c]⟩] w fun e w'=>e=.returned (.int .i64 (Lib.indexByte s.data.toList c))∧w'=w:=Any.strings_Index_one Tryz.lays143 s c w
def Tryz.lays138_ren:Go.Shelf.Ren:=⟨fun | 138=>59 | 195=>72 | 218=>74 | 143=>60 | 219=>57 | 217=>68 | 225=>69 | 224=>70 | 267=>71 | 266=>79 | 314=>80 | n=>n,fun | 9=>9 | 3=>3 | 4=>4 | 5=>5 | 0=>0 | 46=>97 | 146=>122 | 51=>56 | n=>n,fun | 1=>1 | n=>n⟩
theorem Tryz.lays138:Go.Proofs.Lays.n138 Tryz.prog Tryz.lays138_ren:={
 mixed:=by kernel_rfl
 f138:=Tryz.func59.trans (congrArg some (by kernel_rfl))
 f143:=Tryz.func60.trans (congrArg some (by kernel_rfl))
 f195:=Tryz.func72.trans (congrArg some (by kernel_rfl))
 f217:=Tryz.func68.trans (congrArg some (by kernel_rfl))
 f218:=Tryz.func74.trans (congrArg some (by kernel_rfl))
 f219:=Tryz.func57.trans (congrArg some (by kernel_rfl))
 f224:=Tryz.func70.trans (congrArg some (by kernel_rfl))
 f225:=Tryz.func69.trans (congrArg some (by kernel_rfl))
 f266:=Tryz.func79.trans (congrArg some (by kernel_rfl))
 f267:=Tryz.func71.trans (congrArg some (by kernel_rfl))
 f314:=Tryz.func80.trans (congrArg some (by kernel_rfl))
 t0:=Tryz.underlying0
 a0:=Tryz.isAgg0
 z0:=Tryz.sizeOf0
 v0:=Tryz.zeroValue0
 t3:=Tryz.underlying3
 a3:=Tryz.isAgg3
 z3:=Tryz.sizeOf3
 v3:=Tryz.zeroValue3
 t4:=Tryz.underlying4
 a4:=Tryz.isAgg4
 z4:=Tryz.sizeOf4
 v4:=Tryz.zeroValue4
 t5:=Tryz.underlying5
 a5:=Tryz.isAgg5
 z5:=Tryz.sizeOf5
 v5:=Tryz.zeroValue5
 t9:=Tryz.underlying9
 a9:=Tryz.isAgg9
 z9:=Tryz.sizeOf9
 v9:=Tryz.zeroValue9
 t46:=Tryz.underlying97
 a46:=Tryz.isAgg97
 z46:=Tryz.sizeOf97
 v46:=Tryz.zeroValue97
 t51:=Tryz.underlying56
 a51:=Tryz.isAgg56
 z51:=Tryz.sizeOf56
 v51:=Tryz.zeroValue56
 t146:=Tryz.underlying122
 a146:=Tryz.isAgg122
 z146:=Tryz.sizeOf122
 v146:=Tryz.zeroValue122
 g1:=by kernel_rfl }
open Go.RowKit Go.Lib in
/-- strings.Count AT A substr OF ONE BYTE ('hp'): "Count counts the number of non-overlapping instances of substr in s.": IT RETURNS 'Lib.countByte s (that byte)'; the world is as it was. ✋ NO CONTRACT HERE YET at an empty substr (utf8.RuneCountInString) or at a longer one (a loop over strings.Index). (LAID: no walk: one application.) -/
theorem Tryz.strings_Count_one (s:ByteArray) (c:UInt8) (w:World) :
  Calls Tryz.prog 59 #[.string s,.string ⟨#[c]⟩] w fun e w'=>e=.returned (.int .i64 (Lib.countByte s.data.toList c))∧w'=w:=Any.strings_Count_one Tryz.lays138 s c w
end Go.Proofs
