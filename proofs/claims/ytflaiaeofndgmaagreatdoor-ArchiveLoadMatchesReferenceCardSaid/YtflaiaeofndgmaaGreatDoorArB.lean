import Derived.Test.YtflaiaeofndgmaaGreatDoorProg
import Derived.Test.YtflaiaeofndgmaaGreatDoorVmC
import Derived.WalkKit
import Derived.Shelf.RegionOpenPlain
import Derived.Laws.Externs
import Derived.Test.YtflaiaeofndgmaaGreatDoorArS
import Derived.Test.YtflaiaeofndgmaaGreatDoorVmD
namespace Go.Vm.ArzG
open Go.Proofs Go.RowKit
set_option maxHeartbeats 1000000 in
set_option maxRecDepth 100000 in
theorem cc_used (b off:Nat) (w:World) (h0:w.cell? ⟨b,off,none⟩=some (.pointer (some ⟨b,off,none⟩))) :
  Calls Tryz.prog 51 #[.pointer (some ⟨b,off,none⟩)] w fun e w'=>e=.returned (.tuple #[])∧w'=w:=by
 have hp:Tryz.prog.underlying 71=some (.pointer 74):=Tryz.underlying71
 obtain ⟨j,hj,_⟩:∃ j,Tryz.prog.info? 74=some j∧j.size≠0:=⟨_,rfl,by decide⟩
 go_enter Tryz.func51,Tryz.ntmps51
 go_wp2
 rw [Lib.run_neq_ptr_same w _ hp hj]
 go_wp2
 go_end0
 exact ⟨rfl,rfl⟩
set_option maxHeartbeats 1000000 in
set_option maxRecDepth 100000 in
theorem cc_fresh (b off E n:Nat) (w:World) (h0:w.cell? ⟨b,off,none⟩=some (.pointer none)) (hsh:w.shape? b=some (E,n)) (hoff:off < n) (hlies:liesAt Tryz.prog Tryz.prog.depth E (n / Tryz.prog.cellsOf E) off 74 1=true) (hfz:w.frozen? ⟨b,off,none⟩=false) :
  Calls Tryz.prog 51 #[.pointer (some ⟨b,off,none⟩)] w fun e w'=>e=.returned (.tuple #[])∧w'=w.setCell ⟨b,off,none⟩ (.pointer (some ⟨b,off,none⟩)):=by
 have hp:Tryz.prog.underlying 71=some (.pointer 74):=Tryz.underlying71
 have hu:Tryz.prog.underlying 109=some .unsafePointer:=Tryz.underlying109
 obtain ⟨j,hj,hjs⟩:∃ j,Tryz.prog.info? 74=some j∧j.size≠0:=⟨_,rfl,by decide⟩
 go_enter Tryz.func51,Tryz.ntmps51
 go_wp2
 rw [Lib.run_to_unsafe w ⟨b,off,none⟩ hp hu hj hjs hsh hoff]
 simp only [Result.andThen]
 rw [Oper.upon_value]
 go_wp2
 rw [run_callFunc_extern Tryz.func65 (by kernel_rfl) (by kernel_rfl) (by kernel_rfl) (e:=Extern.AbiNoEscape.same) (by kernel_rfl)]
 rw [Lib.run_noEscape]
 simp only [Result.andThen]
 rw [Oper.upon_value]
 go_wp2
 rw [Lib.run_from_unsafe w ⟨b,off,none⟩ hu hp hj hsh hlies]
 simp only [Result.andThen]
 rw [Oper.upon_value]
 go_wp2
 go_end0
 exact ⟨rfl,rfl⟩
theorem b_copyCheck {off E:Nat} {cs:List AV} (hc:cs[off]? = some (.slf off E)) (hlies:liesAt Tryz.prog Tryz.prog.depth E (cs.length / Tryz.prog.cellsOf E) off 74 1=true) (hb:(AV.box cs).backOk=true):ACall Tryz.prog 51 [.bp virtBase off] [.box cs] (.tup []) [.box cs] :=
 ACall.copyCheck (tb:=74) ⟨_,Tryz.func51,by kernel_rfl,by kernel_rfl⟩ cc_used cc_fresh hc hlies hb
set_option maxHeartbeats 1000000 in
set_option maxRecDepth 100000 in
theorem bs_walk (b off n c:Nat) (q p:Option Addr) (s:ByteArray) (w w1 w2:World) (c1:w.drew.cell? ⟨b,off+1,none⟩=some (.slice q n c)) (c2:w1.cell? ⟨b,off+1,none⟩=some (.slice q n c))
  (hSD:(Builtin.unsafeSliceData_ #[72] 96 #[.slice q n c]).run Tryz.prog w.drew=.ok (.pointer p) w1) (hUS:(Builtin.unsafeString_ #[96,3] 9 #[.pointer p,.int .i64 n]).run Tryz.prog w1=.ok (.string s) w2) :
  Calls Tryz.prog 32 #[.pointer (some ⟨b,off,none⟩)] w fun e w'=>e=.returned (.string s)∧w'=w2:=by
 have mixed:Tryz.prog.follows .mixedOrders=true:=by kernel_rfl
 go_enter Tryz.func32,Tryz.ntmps32
 go_wp2
 go_region
 all_goals (go_wp2; go_ret; exact ⟨rfl,rfl⟩)
theorem b_String {off:Nat} {cs:List AV} {l:List UInt8} (hl63:l.length≤9223372036854775807) (hc:cs[off+1]? = some (.own 5 1 (l.map cU))) (hb:(AV.box (cs.set (off+1) .junk)).backOk=true):ACall Tryz.prog 32 [.bp virtBase off] [.box cs] (.d (.str l)) [.box (cs.set (off+1) .junk)] :=
 ACall.bString ⟨_,Tryz.func32,by kernel_rfl,by kernel_rfl⟩ Tryz.underlying96 (by kernel_rfl) (by decide) bs_walk hl63 hc hb
theorem b_Clone {l:List UInt8} (h:l.length≤281474976710656):ACall Tryz.prog 66 [.d (.str l)] [] (.d (.str l)) [] :=
 ACall.ofBelow ⟨_,Tryz.func66,by kernel_rfl,by kernel_rfl⟩ (us:=[strOf l]) (u:=strOf l) rfl rfl rfl fun w=>Tryz.stringslite_Clone ⟨l.toArray⟩ w (by simpa [ByteArray.size] using h)
theorem b_Repeat {l:List UInt8} {n:Int} (h:0≤n∧n≤9223372036854775807∧l.length * n.toNat≤140737488355328):ACall Tryz.prog 122 [.d (.str l),.d (.v (.int .i64 n))] [] (.d (.str (Lib.repeatL l n.toNat))) [] :=
 ACall.ofBelow ⟨_,Tryz.func122,by kernel_rfl,by kernel_rfl⟩ (us:=[strOf l,.int .i64 n]) (u:=strOf (Lib.repeatL l n.toNat)) rfl rfl rfl fun w=>by
  have:=Tryz.strings_Repeat ⟨l.toArray⟩ n.toNat w (by omega) (by simpa [ByteArray.size] using h.2.2)
  rw [Int.toNat_of_nonneg h.1] at this
  exact this
end Go.Vm.ArzG
