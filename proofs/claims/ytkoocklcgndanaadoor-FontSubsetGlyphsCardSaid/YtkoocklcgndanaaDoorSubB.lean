import Derived.Test.YtkoocklcgndanaaDoorProg
import Derived.Test.YtkoocklcgndanaaDoorVmC
import Derived.WalkKit
import Derived.Shelf.RegionOpenPlain
import Derived.Laws.Externs
import Derived.Test.YtkoocklcgndanaaDoorSubS
import Derived.Test.YtkoocklcgndanaaDoorVmD
namespace Go.Vm.SubG
open Go.Proofs Go.RowKit
set_option maxHeartbeats 1000000 in
set_option maxRecDepth 100000 in
theorem cc_used (b off:Nat) (w:World) (h0:w.cell? ⟨b,off,none⟩=some (.pointer (some ⟨b,off,none⟩))) :
  Calls Tryd.prog 60 #[.pointer (some ⟨b,off,none⟩)] w fun e w'=>e=.returned (.tuple #[])∧w'=w:=by
 have hp:Tryd.prog.underlying 87=some (.pointer 90):=Tryd.underlying87
 obtain ⟨j,hj,_⟩:∃ j,Tryd.prog.info? 90=some j∧j.size≠0:=⟨_,rfl,by decide⟩
 go_enter Tryd.func60,Tryd.ntmps60
 go_wp2
 rw [Lib.run_neq_ptr_same w _ hp hj]
 go_wp2
 go_end0
 exact ⟨rfl,rfl⟩
set_option maxHeartbeats 1000000 in
set_option maxRecDepth 100000 in
theorem cc_fresh (b off E n:Nat) (w:World) (h0:w.cell? ⟨b,off,none⟩=some (.pointer none)) (hsh:w.shape? b=some (E,n)) (hoff:off < n) (hlies:liesAt Tryd.prog Tryd.prog.depth E (n / Tryd.prog.cellsOf E) off 90 1=true) (hfz:w.frozen? ⟨b,off,none⟩=false) :
  Calls Tryd.prog 60 #[.pointer (some ⟨b,off,none⟩)] w fun e w'=>e=.returned (.tuple #[])∧w'=w.setCell ⟨b,off,none⟩ (.pointer (some ⟨b,off,none⟩)):=by
 have hp:Tryd.prog.underlying 87=some (.pointer 90):=Tryd.underlying87
 have hu:Tryd.prog.underlying 127=some .unsafePointer:=Tryd.underlying127
 obtain ⟨j,hj,hjs⟩:∃ j,Tryd.prog.info? 90=some j∧j.size≠0:=⟨_,rfl,by decide⟩
 go_enter Tryd.func60,Tryd.ntmps60
 go_wp2
 rw [Lib.run_to_unsafe w ⟨b,off,none⟩ hp hu hj hjs hsh hoff]
 simp only [Result.andThen]
 rw [Oper.upon_value]
 go_wp2
 rw [run_callFunc_extern Tryd.func67 (by kernel_rfl) (by kernel_rfl) (by kernel_rfl) (e:=Extern.AbiNoEscape.same) (by kernel_rfl)]
 rw [Lib.run_noEscape]
 simp only [Result.andThen]
 rw [Oper.upon_value]
 go_wp2
 rw [Lib.run_from_unsafe w ⟨b,off,none⟩ hu hp hj hsh hlies]
 simp only [Result.andThen]
 rw [Oper.upon_value]
 go_wp2
 go_end0
 exact ⟨rfl,rfl⟩
theorem b_copyCheck {off E:Nat} {cs:List AV} (hc:cs[off]? = some (.slf off E)) (hlies:liesAt Tryd.prog Tryd.prog.depth E (cs.length / Tryd.prog.cellsOf E) off 90 1=true) (hb:(AV.box cs).backOk=true):ACall Tryd.prog 60 [.bp virtBase off] [.box cs] (.tup []) [.box cs] :=
 ACall.copyCheck (tb:=90) ⟨_,Tryd.func60,by kernel_rfl,by kernel_rfl⟩ cc_used cc_fresh hc hlies hb
set_option maxHeartbeats 1000000 in
set_option maxRecDepth 100000 in
theorem bs_walk (b off n c:Nat) (q p:Option Addr) (s:ByteArray) (w w1 w2:World) (c1:w.drew.cell? ⟨b,off+1,none⟩=some (.slice q n c)) (c2:w1.cell? ⟨b,off+1,none⟩=some (.slice q n c))
  (hSD:(Builtin.unsafeSliceData_ #[88] 118 #[.slice q n c]).run Tryd.prog w.drew=.ok (.pointer p) w1) (hUS:(Builtin.unsafeString_ #[118,3] 9 #[.pointer p,.int .i64 n]).run Tryd.prog w1=.ok (.string s) w2) :
  Calls Tryd.prog 41 #[.pointer (some ⟨b,off,none⟩)] w fun e w'=>e=.returned (.string s)∧w'=w2:=by
 have mixed:Tryd.prog.follows .mixedOrders=true:=by kernel_rfl
 go_enter Tryd.func41,Tryd.ntmps41
 go_wp2
 go_region
 all_goals (go_wp2; go_ret; exact ⟨rfl,rfl⟩)
theorem b_String {off:Nat} {cs:List AV} {l:List UInt8} (hl63:l.length≤9223372036854775807) (hc:cs[off+1]? = some (.own 5 1 (l.map cU))) (hb:(AV.box (cs.set (off+1) .junk)).backOk=true):ACall Tryd.prog 41 [.bp virtBase off] [.box cs] (.d (.str l)) [.box (cs.set (off+1) .junk)] :=
 ACall.bString ⟨_,Tryd.func41,by kernel_rfl,by kernel_rfl⟩ Tryd.underlying118 (by kernel_rfl) (by decide) bs_walk hl63 hc hb
theorem b_Sort_16 {q:Nat} {V V':AV} {κ:TypeId} {l:List Int} (hb:l.length≤4294967296) (hq:pget (finFr [.vw (virtBase,q)] [V]) (virtBase,q)=.own κ 1 (l.map (cI .i64)))
  (hV:fget (pset (finFr [.vw (virtBase,q)] [V]) (virtBase,q) (.own κ 1 ((sortI l).map (cI .i64)))) virtBase=V'):ACall Tryd.prog 16 [.vw (virtBase,q)] [V] (.tup []) [V'] :=
 ACall.sortInt ⟨_,Tryd.func16,by kernel_rfl,by kernel_rfl⟩ (sortI_len l) hq hV (fun blk off cap w hH hb'=>Tryd.slices_Sort_int blk off cap l w hH hb' (by omega)) (fun p cap w=>Tryd.slices_Sort_int_none p cap w)
theorem b_CompactO_18 {κ:TypeId} {l:List Int} (hb:l.length≤4294967296) (hκl:κ < 2199023255552):ACall Tryd.prog 18 [.own κ 1 (l.map (cI .i64))] [] (.own κ 1 ((Lib.compact l).map (cI .i64))) [] :=
 ACall.compactIntO ⟨_,Tryd.func18,by kernel_rfl,by kernel_rfl⟩ hb hκl (fun blk off cap zs w h1 h2 h3=>Tryd.slices_Compact_int blk off cap zs w h1 h2 h3) (fun p cap w=>Tryd.slices_Compact_int_empty p cap w) (compact_len l) (fun h=>by rw [h]; rfl)
end Go.Vm.SubG
