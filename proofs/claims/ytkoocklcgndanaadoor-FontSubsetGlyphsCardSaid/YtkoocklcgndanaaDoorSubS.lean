import Derived.Shelf.Sort.Plain
import Derived.Shelf.Slices.CompactI
import Derived.Shelf.Slices.In.SortNone
import Derived.Test.YtkoocklcgndanaaDoorProg
namespace Go.Proofs
open Go.Shelf
def Tryd.lays189_ren:Go.Shelf.Ren:=⟨fun | 189=>16 | 125=>33 | 257=>32 | 128=>56 | 129=>57 | 294=>47 | 295=>48 | 296=>49 | 297=>50 | 298=>51 | 299=>52 | 216=>53 | 300=>54 | 301=>55 | 328=>62 | 329=>63 | 330=>64 | 331=>65 | 332=>66 | 215=>58 | 343=>68 | n=>n,fun | 28=>27 | 3=>3 | 46=>80 | 0=>0 | 51=>100 | 53=>115 | 4=>4 | 183=>108 | 182=>107 | 131=>82 | 5=>5 | 9=>9 | 218=>121 | 222=>125 | 228=>129 | 229=>130 | n=>n,fun | n=>n⟩
theorem Tryd.lays189:Go.Proofs.Lays.n189 Tryd.prog Tryd.lays189_ren:={
 mixed:=by kernel_rfl
 f125:=Tryd.func33.trans (congrArg some (by kernel_rfl))
 f128:=Tryd.func56.trans (congrArg some (by kernel_rfl))
 f129:=Tryd.func57.trans (congrArg some (by kernel_rfl))
 f189:=Tryd.func16.trans (congrArg some (by kernel_rfl))
 f215:=Tryd.func58.trans (congrArg some (by kernel_rfl))
 f216:=Tryd.func53.trans (congrArg some (by kernel_rfl))
 f257:=Tryd.func32.trans (congrArg some (by kernel_rfl))
 f294:=Tryd.func47.trans (congrArg some (by kernel_rfl))
 f295:=Tryd.func48.trans (congrArg some (by kernel_rfl))
 f296:=Tryd.func49.trans (congrArg some (by kernel_rfl))
 f297:=Tryd.func50.trans (congrArg some (by kernel_rfl))
 f298:=Tryd.func51.trans (congrArg some (by kernel_rfl))
 f299:=Tryd.func52.trans (congrArg some (by kernel_rfl))
 f300:=Tryd.func54.trans (congrArg some (by kernel_rfl))
 f301:=Tryd.func55.trans (congrArg some (by kernel_rfl))
 f328:=Tryd.func62.trans (congrArg some (by kernel_rfl))
 f329:=Tryd.func63.trans (congrArg some (by kernel_rfl))
 f330:=Tryd.func64.trans (congrArg some (by kernel_rfl))
 f331:=Tryd.func65.trans (congrArg some (by kernel_rfl))
 f332:=Tryd.func66.trans (congrArg some (by kernel_rfl))
 f343:=Tryd.func68.trans (congrArg some (by kernel_rfl))
 t0:=Tryd.underlying0
 a0:=Tryd.isAgg0
 z0:=Tryd.sizeOf0
 v0:=Tryd.zeroValue0
 t3:=Tryd.underlying3
 a3:=Tryd.isAgg3
 z3:=Tryd.sizeOf3
 v3:=Tryd.zeroValue3
 t4:=Tryd.underlying4
 a4:=Tryd.isAgg4
 z4:=Tryd.sizeOf4
 v4:=Tryd.zeroValue4
 t5:=Tryd.underlying5
 a5:=Tryd.isAgg5
 z5:=Tryd.sizeOf5
 v5:=Tryd.zeroValue5
 t9:=Tryd.underlying9
 a9:=Tryd.isAgg9
 z9:=Tryd.sizeOf9
 v9:=Tryd.zeroValue9
 t28:=Tryd.underlying27
 a28:=Tryd.isAgg27
 z28:=Tryd.sizeOf27
 v28:=Tryd.zeroValue27
 t46:=Tryd.underlying80
 a46:=Tryd.isAgg80
 z46:=Tryd.sizeOf80
 v46:=Tryd.zeroValue80
 t51:=Tryd.underlying100
 a51:=Tryd.isAgg100
 z51:=Tryd.sizeOf100
 v51:=Tryd.zeroValue100
 t53:=Tryd.underlying115
 a53:=Tryd.isAgg115
 z53:=Tryd.sizeOf115
 v53:=Tryd.zeroValue115
 t131:=Tryd.underlying82
 a131:=Tryd.isAgg82
 z131:=Tryd.sizeOf82
 v131:=Tryd.zeroValue82
 t182:=Tryd.underlying107
 a182:=Tryd.isAgg107
 z182:=Tryd.sizeOf107
 v182:=Tryd.zeroValue107
 t183:=Tryd.underlying108
 a183:=Tryd.isAgg108
 z183:=Tryd.sizeOf108
 v183:=Tryd.zeroValue108
 t218:=Tryd.underlying121
 a218:=Tryd.isAgg121
 z218:=Tryd.sizeOf121
 v218:=Tryd.zeroValue121
 t222:=Tryd.underlying125
 a222:=Tryd.isAgg125
 z222:=Tryd.sizeOf125
 v222:=Tryd.zeroValue125
 t228:=Tryd.underlying129
 a228:=Tryd.isAgg129
 z228:=Tryd.sizeOf129
 v228:=Tryd.zeroValue129
 t229:=Tryd.underlying130
 a229:=Tryd.isAgg130
 z229:=Tryd.sizeOf130
 v229:=Tryd.zeroValue130 }
open Go.Sort Go.RowKit in
theorem Tryd.slices_Sort_int (blk off cap:Nat) (zs:List Int) (w:World) (hH:Holds (Value.int .i64) w blk off zs.toArray) (hblk:blk < w.heap.size) (hsz:zs.length < 4611686018427387904) :
  Calls Tryd.prog 16 #[.slice (some ⟨blk,off,none⟩) zs.length cap] w fun e w' =>
   e=.returned (.tuple #[])∧∃ n os,w'=grow (putRow (Value.int .i64) (Sort.ahead w n) blk off (zs.mergeSort fun x y=>decide (x≤y)).toArray) os:=Any.slices_Sort_int Tryd.lays189 blk off cap zs w hH hblk hsz
def Tryd.laysNm220_ren:Go.Shelf.Ren:=⟨fun | 20=>18 | n=>n,fun | 22=>27 | 3=>3 | 4=>4 | 0=>0 | n=>n,fun | n=>n⟩
theorem Tryd.laysNm220:Go.Proofs.Lays2.n20 Tryd.prog Tryd.laysNm220_ren:={
 mixed:=by kernel_rfl
 f20:=Tryd.func18.trans (congrArg some (by kernel_rfl))
 t0:=Tryd.underlying0
 a0:=Tryd.isAgg0
 z0:=Tryd.sizeOf0
 v0:=Tryd.zeroValue0
 t3:=Tryd.underlying3
 a3:=Tryd.isAgg3
 z3:=Tryd.sizeOf3
 v3:=Tryd.zeroValue3
 t4:=Tryd.underlying4
 a4:=Tryd.isAgg4
 z4:=Tryd.sizeOf4
 v4:=Tryd.zeroValue4
 t22:=Tryd.underlying27
 a22:=Tryd.isAgg27
 z22:=Tryd.sizeOf27
 v22:=Tryd.zeroValue27
 i3:=by kernel_rfl }
open Go.RowKit Go.Lib Go.Sort in
/-- slices.Compact at []int: "Compact replaces consecutive runs of equal elements with a single copy. This is like the uniq command found on Unix. Compact modifies the contents of the slice s and returns the modified slice,which may have a smaller length. Compact zeroes the elements between the new length and the original length. The result preserves the nilness of s.": IT RETURNS THE SLICE CUT TO 'Lib.compact zs'; ITS CELLS HOLD 'Lib.compact zs',THEN ZERO VALUES up to the old length; all else is as it was,but for the count of draws. IN THE WORDS OF slices.Sort's CONTRACT ('Holds','putRow'): so the everyday 'slices.Sort(xs); xs = slices.Compact(xs)' goes from the one contract to the other. It asks 'zs.length ≤ cap' (every slice's: the reslicing 's[:k]' looks at it). Length 0,nil: '.._empty'. (LAID: no walk: one application.) -/
theorem Tryd.slices_Compact_int (blk off cap:Nat) (zs:List Int) (w:World) (hH:Holds (Value.int .i64) w blk off zs.toArray) (hsz:zs.length≤9223372036854775807) (hcap:zs.length≤cap) :
  Calls Tryd.prog 18 #[.slice (some ⟨blk,off,none⟩) zs.length cap] w fun e w'=>e=.returned (.slice (some ⟨blk,off,none⟩) (Lib.compact zs).length cap)∧∃ q,w'=putRow (Value.int .i64) (Sort.ahead w q) blk off (Lib.compact zs++List.replicate (zs.length - (Lib.compact zs).length) 0).toArray:=Any.slices_Compact_int Tryd.laysNm220 blk off cap zs w hH hsz hcap
open Go.RowKit Go.Lib Go.Sort in
/-- The same at a slice of length 0,a nil one too: it comes back as it is. (LAID: no walk: one application.) -/
theorem Tryd.slices_Compact_int_empty (a:Option Addr) (cap:Nat) (w:World) :
  Calls Tryd.prog 18 #[.slice a 0 cap] w fun e w'=>e=.returned (.slice a 0 cap)∧w'=w:=Any.slices_Compact_int_empty Tryd.laysNm220 a cap w
open Go.RowKit Go.Sort in
/-- .. and plain. (LAID: no walk: one application.) -/
theorem Tryd.slices_Sort_int_none (p:Option Addr) (cap:Nat) (w:World) :
  Calls Tryd.prog 16 #[.slice p 0 cap] w fun e w'=>e=.returned (.tuple #[])∧w'=w:=Any.slices_Sort_int_none Tryd.lays189 p cap w
end Go.Proofs
