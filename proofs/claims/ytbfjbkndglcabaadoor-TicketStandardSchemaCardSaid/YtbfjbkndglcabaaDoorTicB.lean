import Derived.Test.YtbfjbkndglcabaaDoorProg
import Derived.Test.YtbfjbkndglcabaaDoorVmC
import Derived.WalkKit
import Derived.Shelf.RegionOpenPlain
import Derived.Laws.Externs
import Derived.Test.YtbfjbkndglcabaaDoorTicS
import Derived.Test.YtbfjbkndglcabaaDoorVmD
import Derived.Lib.AppendIntMem
import Derived.Test.YtbfjbkndglcabaaDoorTicF
namespace Go.Vm.TicG
open Go.Proofs Go.RowKit
set_option maxHeartbeats 1000000 in
set_option maxRecDepth 100000 in
theorem cc_used (b off:Nat) (w:World) (h0:w.cell? ⟨b,off,none⟩=some (.pointer (some ⟨b,off,none⟩))) :
    Calls Tryd.prog 72 #[.pointer (some ⟨b,off,none⟩)] w fun e w'=>e=.returned (.tuple #[])∧w'=w:=by
  have hp:Tryd.prog.underlying 87=some (.pointer 89):=Tryd.underlying87
  obtain ⟨j,hj,_⟩:∃ j,Tryd.prog.info? 89=some j∧j.size≠0:=⟨_,rfl,by decide⟩
  go_enter Tryd.func72,Tryd.ntmps72
  go_wp2
  rw [Lib.run_neq_ptr_same w _ hp hj]
  go_wp2
  go_end0
  exact ⟨rfl,rfl⟩
set_option maxHeartbeats 1000000 in
set_option maxRecDepth 100000 in
theorem cc_fresh (b off E n:Nat) (w:World) (h0:w.cell? ⟨b,off,none⟩=some (.pointer none)) (hsh:w.shape? b=some (E,n)) (hoff:off < n) (hlies:liesAt Tryd.prog Tryd.prog.depth E (n / Tryd.prog.cellsOf E) off 89 1=true) (hfz:w.frozen? ⟨b,off,none⟩=false) :
    Calls Tryd.prog 72 #[.pointer (some ⟨b,off,none⟩)] w fun e w'=>e=.returned (.tuple #[])∧w'=w.setCell ⟨b,off,none⟩ (.pointer (some ⟨b,off,none⟩)):=by
  have hp:Tryd.prog.underlying 87=some (.pointer 89):=Tryd.underlying87
  have hu:Tryd.prog.underlying 110=some .unsafePointer:=Tryd.underlying110
  obtain ⟨j,hj,hjs⟩:∃ j,Tryd.prog.info? 89=some j∧j.size≠0:=⟨_,rfl,by decide⟩
  go_enter Tryd.func72,Tryd.ntmps72
  go_wp2
  rw [Lib.run_to_unsafe w ⟨b,off,none⟩ hp hu hj hjs hsh hoff]
  simp only [Result.andThen]
  rw [Oper.upon_value]
  go_wp2
  rw [run_callFunc_extern Tryd.func79 (by kernel_rfl) (by kernel_rfl) (by kernel_rfl) (e:=Extern.AbiNoEscape.same) (by kernel_rfl)]
  rw [Lib.run_noEscape]
  simp only [Result.andThen]
  rw [Oper.upon_value]
  go_wp2
  rw [Lib.run_from_unsafe w ⟨b,off,none⟩ hu hp hj hsh hlies]
  simp only [Result.andThen]
  rw [Oper.upon_value]
  go_wp2
  go_end0
  exact ⟨rfl,rfl⟩
theorem b_copyCheck {off E:Nat} {cs:List AV} (hc:cs[off]? = some (.slf off E)) (hlies:liesAt Tryd.prog Tryd.prog.depth E (cs.length / Tryd.prog.cellsOf E) off 89 1=true) (hb:(AV.box cs).backOk=true):ACall Tryd.prog 72 [.bp virtBase off] [.box cs] (.tup []) [.box cs] :=
  ACall.copyCheck (tb:=89) ⟨_,Tryd.func72,by kernel_rfl,by kernel_rfl⟩ cc_used cc_fresh hc hlies hb
set_option maxHeartbeats 1000000 in
set_option maxRecDepth 100000 in
theorem bs_walk (b off n c:Nat) (q p:Option Addr) (s:ByteArray) (w w1 w2:World) (c1:w.drew.cell? ⟨b,off+1,none⟩=some (.slice q n c)) (c2:w1.cell? ⟨b,off+1,none⟩=some (.slice q n c))
    (hSD:(Builtin.unsafeSliceData_ #[57] 102 #[.slice q n c]).run Tryd.prog w.drew=.ok (.pointer p) w1) (hUS:(Builtin.unsafeString_ #[102,3] 9 #[.pointer p,.int .i64 n]).run Tryd.prog w1=.ok (.string s) w2) :
    Calls Tryd.prog 62 #[.pointer (some ⟨b,off,none⟩)] w fun e w'=>e=.returned (.string s)∧w'=w2:=by
  have mixed:Tryd.prog.follows .mixedOrders=true:=by kernel_rfl
  go_enter Tryd.func62,Tryd.ntmps62
  go_wp2
  go_region
  all_goals (go_wp2; go_ret; exact ⟨rfl,rfl⟩)
theorem b_String {off:Nat} {cs:List AV} {l:List UInt8} (hl63:l.length≤9223372036854775807) (hc:cs[off+1]? = some (.own 5 1 (l.map cU))) (hb:(AV.box (cs.set (off+1) .junk)).backOk=true):ACall Tryd.prog 62 [.bp virtBase off] [.box cs] (.d (.str l)) [.box (cs.set (off+1) .junk)] :=
  ACall.bString ⟨_,Tryd.func62,by kernel_rfl,by kernel_rfl⟩ Tryd.underlying102 (by kernel_rfl) bs_walk hl63 hc hb
theorem b_IndexByte_64 {l:List UInt8} {c:Int}:ACall Tryd.prog 64 [.d (.str l),.d (.v (.int .u8 c))] [] (.d (.v (.int .i64 (Lib.indexByte l c.toNat.toUInt8)))) [] :=
  ACall.ofBelow ⟨_,Tryd.func64,by kernel_rfl,by kernel_rfl⟩ (us:=[strOf l,.int .u8 c]) (u:=.int .i64 (Lib.indexByte l c.toNat.toUInt8)) rfl rfl rfl fun w=>(Tryd.strings_IndexByte ⟨l.toArray⟩ c w).mono (by rintro e w' ⟨rfl,rfl⟩; exact ⟨rfl,Below.refl _ _⟩)
theorem b_Itoa {n:Int} (h : -9223372036854775808≤n∧n≤9223372036854775807):ACall Tryd.prog 40 [.d (.v (.int .i64 n))] [.glo 0 (glob_internal_strconv_uint64pow10.flatMap (cI .u64))] (.d (.str (Lib.itoa n))) [.glo 0 (glob_internal_strconv_uint64pow10.flatMap (cI .u64))] :=
  ACall.ofBelowG ⟨_,Tryd.func40,by kernel_rfl,by kernel_rfl⟩ (us:=[.int .i64 n]) (u:=strOf (Lib.itoa n)) rfl rfl rfl fun w S hg=>(Tryd.strconv_Itoa n h.1 h.2 w (TabIs.of_glo (by kernel_rfl) hg)).mono (by rintro e w' ⟨rfl,k,os,rfl⟩; exact ⟨rfl,Lib.below_grow _ _ (Nat.le_refl _) _ _⟩)
end Go.Vm.TicG
