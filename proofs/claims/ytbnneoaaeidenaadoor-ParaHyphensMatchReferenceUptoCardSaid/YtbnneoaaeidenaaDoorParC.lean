import Derived.Test.YtbnneoaaeidenaaDoorProg
import Derived.Test.YtbnneoaaeidenaaDoorVmD
import Derived.WalkKit
import Derived.Shelf.RegionOpenPlain
import Derived.Laws.Externs
import Derived.Test.YtbnneoaaeidenaaDoorParB
import Derived.Shelf.Strings.SlTrimAscii
namespace Go.Vm.ParG
open Go.Proofs Go.RowKit
set_option maxHeartbeats 1000000 in
set_option maxRecDepth 100000 in
theorem cc_used (b off:Nat) (w:World) (h0:w.cell? ⟨b,off,none⟩=some (.pointer (some ⟨b,off,none⟩))) :
    Calls Tryd.prog 37 #[.pointer (some ⟨b,off,none⟩)] w fun e w'=>e=.returned (.tuple #[])∧w'=w:=by
  have hp:Tryd.prog.underlying 64=some (.pointer 67):=Tryd.underlying64
  obtain ⟨j,hj,_⟩:∃ j,Tryd.prog.info? 67=some j∧j.size≠0:=⟨_,rfl,by decide⟩
  go_enter Tryd.func37,Tryd.ntmps37
  go_wp2
  rw [Lib.run_neq_ptr_same w _ hp hj]
  go_wp2
  go_end0
  exact ⟨rfl,rfl⟩
set_option maxHeartbeats 1000000 in
set_option maxRecDepth 100000 in
theorem cc_fresh (b off E n:Nat) (w:World) (h0:w.cell? ⟨b,off,none⟩=some (.pointer none)) (hsh:w.shape? b=some (E,n)) (hoff:off < n) (hlies:liesAt Tryd.prog Tryd.prog.depth E (n / Tryd.prog.cellsOf E) off 67 1=true) (hfz:w.frozen? ⟨b,off,none⟩=false) :
    Calls Tryd.prog 37 #[.pointer (some ⟨b,off,none⟩)] w fun e w'=>e=.returned (.tuple #[])∧w'=w.setCell ⟨b,off,none⟩ (.pointer (some ⟨b,off,none⟩)):=by
  have hp:Tryd.prog.underlying 64=some (.pointer 67):=Tryd.underlying64
  have hu:Tryd.prog.underlying 91=some .unsafePointer:=Tryd.underlying91
  obtain ⟨j,hj,hjs⟩:∃ j,Tryd.prog.info? 67=some j∧j.size≠0:=⟨_,rfl,by decide⟩
  go_enter Tryd.func37,Tryd.ntmps37
  go_wp2
  rw [Lib.run_to_unsafe w ⟨b,off,none⟩ hp hu hj hjs hsh hoff]
  simp only [Result.andThen]
  rw [Oper.upon_value]
  go_wp2
  rw [run_callFunc_extern Tryd.func42 (by kernel_rfl) (by kernel_rfl) (by kernel_rfl) (e:=Extern.AbiNoEscape.same) (by kernel_rfl)]
  rw [Lib.run_noEscape]
  simp only [Result.andThen]
  rw [Oper.upon_value]
  go_wp2
  rw [Lib.run_from_unsafe w ⟨b,off,none⟩ hu hp hj hsh hlies]
  simp only [Result.andThen]
  rw [Oper.upon_value]
  go_wp2
  go_end0
  exact ⟨rfl,rfl⟩
theorem b_copyCheck {off E:Nat} {cs:List AV} (hc:cs[off]? = some (.slf off E)) (hlies:liesAt Tryd.prog Tryd.prog.depth E (cs.length / Tryd.prog.cellsOf E) off 67 1=true) (hb:(AV.box cs).backOk=true):ACall Tryd.prog 37 [.bp virtBase off] [.box cs] (.tup []) [.box cs] :=
  ACall.copyCheck (tb:=67) ⟨_,Tryd.func37,by kernel_rfl,by kernel_rfl⟩ cc_used cc_fresh hc hlies hb
set_option maxHeartbeats 1000000 in
set_option maxRecDepth 100000 in
theorem bs_walk (b off n c:Nat) (q p:Option Addr) (s:ByteArray) (w w1 w2:World) (c1:w.drew.cell? ⟨b,off+1,none⟩=some (.slice q n c)) (c2:w1.cell? ⟨b,off+1,none⟩=some (.slice q n c))
    (hSD:(Builtin.unsafeSliceData_ #[65] 86 #[.slice q n c]).run Tryd.prog w.drew=.ok (.pointer p) w1) (hUS:(Builtin.unsafeString_ #[86,3] 9 #[.pointer p,.int .i64 n]).run Tryd.prog w1=.ok (.string s) w2) :
    Calls Tryd.prog 27 #[.pointer (some ⟨b,off,none⟩)] w fun e w'=>e=.returned (.string s)∧w'=w2:=by
  have mixed:Tryd.prog.follows .mixedOrders=true:=by kernel_rfl
  go_enter Tryd.func27,Tryd.ntmps27
  go_wp2
  go_region
  all_goals (go_wp2; go_ret; exact ⟨rfl,rfl⟩)
theorem b_String {off:Nat} {cs:List AV} {l:List UInt8} (hl63:l.length≤9223372036854775807) (hc:cs[off+1]? = some (.own 5 1 (l.map cU))) (hb:(AV.box (cs.set (off+1) .junk)).backOk=true):ACall Tryd.prog 27 [.bp virtBase off] [.box cs] (.d (.str l)) [.box (cs.set (off+1) .junk)] :=
  ACall.bString ⟨_,Tryd.func27,by kernel_rfl,by kernel_rfl⟩ Tryd.underlying86 (by kernel_rfl) (by decide) bs_walk hl63 hc hb
/- Tryd.strings_Trim_one -/
theorem b_Trim {l c:List UInt8} (h:l.length≤9223372036854775807) (hc:c.length < 4294967281∧∀ b∈c,b.toNat < 128):ACall Tryd.prog 24 [.d (.str l),.d (.str c)] [] (.d (.str (Lib.trimS l c))) [] :=
  ACall.ofBelow ⟨_,Tryd.func24,by kernel_rfl,by kernel_rfl⟩ (us:=[strOf l,strOf c]) (u:=strOf (Lib.trimS l c)) rfl rfl rfl fun w=>Any.strings_Trim_laid Tryd.lays160 (by kernel_rfl) ⟨l.toArray⟩ ⟨c.toArray⟩ w (by simpa [ByteArray.size] using h) (by simpa [ByteArray.size] using hc.1) fun j b hb=>hc.2 b (List.mem_of_getElem? hb)
end Go.Vm.ParG
