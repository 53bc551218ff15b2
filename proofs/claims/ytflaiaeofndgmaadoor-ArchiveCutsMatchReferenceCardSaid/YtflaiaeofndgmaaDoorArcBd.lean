import Derived.Test.YtflaiaeofndgmaaDoorProg
import Derived.Test.YtflaiaeofndgmaaDoorVmC
import Derived.Test.YtflaiaeofndgmaaDoorVmD
import Derived.WalkKit
import Derived.Shelf.RegionOpenPlain
import Derived.Laws.Externs
namespace Go.Vm.ArcB
open Go.Proofs Go.RowKit
set_option maxHeartbeats 1000000 in
set_option maxRecDepth 100000 in
theorem cc_used (b off:Nat) (w:World) (h0:w.cell? ⟨b,off,none⟩=some (.pointer (some ⟨b,off,none⟩))) :
    Calls Tryd.prog 27 #[.pointer (some ⟨b,off,none⟩)] w fun e w'=>e=.returned (.tuple #[])∧w'=w:=by
  have hp:Tryd.prog.underlying 54=some (.pointer 57):=Tryd.underlying54
  obtain ⟨j,hj,_⟩:∃ j,Tryd.prog.info? 57=some j∧j.size≠0:=⟨_,rfl,by decide⟩
  go_enter Tryd.func27,Tryd.ntmps27
  go_wp2
  rw [Lib.run_neq_ptr_same w _ hp hj]
  go_wp2
  go_end0
  exact ⟨rfl,rfl⟩
set_option maxHeartbeats 1000000 in
set_option maxRecDepth 100000 in
theorem cc_fresh (b off E n:Nat) (w:World) (h0:w.cell? ⟨b,off,none⟩=some (.pointer none)) (hsh:w.shape? b=some (E,n)) (hoff:off < n) (hlies:liesAt Tryd.prog Tryd.prog.depth E (n / Tryd.prog.cellsOf E) off 57 1=true) (hfz:w.frozen? ⟨b,off,none⟩=false) :
    Calls Tryd.prog 27 #[.pointer (some ⟨b,off,none⟩)] w fun e w'=>e=.returned (.tuple #[])∧w'=w.setCell ⟨b,off,none⟩ (.pointer (some ⟨b,off,none⟩)):=by
  have hp:Tryd.prog.underlying 54=some (.pointer 57):=Tryd.underlying54
  have hu:Tryd.prog.underlying 72=some .unsafePointer:=Tryd.underlying72
  obtain ⟨j,hj,hjs⟩:∃ j,Tryd.prog.info? 57=some j∧j.size≠0:=⟨_,rfl,by decide⟩
  go_enter Tryd.func27,Tryd.ntmps27
  go_wp2
  rw [Lib.run_to_unsafe w ⟨b,off,none⟩ hp hu hj hjs hsh hoff]
  simp only [Result.andThen]
  rw [Oper.upon_value]
  go_wp2
  rw [run_callFunc_extern Tryd.func31 (by kernel_rfl) (by kernel_rfl) (by kernel_rfl) (e:=Extern.AbiNoEscape.same) (by kernel_rfl)]
  rw [Lib.run_noEscape]
  simp only [Result.andThen]
  rw [Oper.upon_value]
  go_wp2
  rw [Lib.run_from_unsafe w ⟨b,off,none⟩ hu hp hj hsh hlies]
  simp only [Result.andThen]
  rw [Oper.upon_value]
  go_wp2
  go_end0
  exact ⟨rfl,rfl⟩
theorem b_copyCheck {off E:Nat} {cs:List AV} (hc:cs[off]? = some (.slf off E)) (hlies:liesAt Tryd.prog Tryd.prog.depth E (cs.length / Tryd.prog.cellsOf E) off 57 1=true) (hb:(AV.box cs).backOk=true):ACall Tryd.prog 27 [.bp virtBase off] [.box cs] (.tup []) [.box cs] :=
  ACall.copyCheck (tb:=57) ⟨_,Tryd.func27,by kernel_rfl,by kernel_rfl⟩ cc_used cc_fresh hc hlies hb
set_option maxHeartbeats 1000000 in
set_option maxRecDepth 100000 in
theorem bs_walk (b off n c:Nat) (q p:Option Addr) (s:ByteArray) (w w1 w2:World) (c1:w.drew.cell? ⟨b,off+1,none⟩=some (.slice q n c)) (c2:w1.cell? ⟨b,off+1,none⟩=some (.slice q n c))
    (hSD:(Builtin.unsafeSliceData_ #[55] 70 #[.slice q n c]).run Tryd.prog w.drew=.ok (.pointer p) w1) (hUS:(Builtin.unsafeString_ #[70,3] 9 #[.pointer p,.int .i64 n]).run Tryd.prog w1=.ok (.string s) w2) :
    Calls Tryd.prog 19 #[.pointer (some ⟨b,off,none⟩)] w fun e w'=>e=.returned (.string s)∧w'=w2:=by
  have mixed:Tryd.prog.follows .mixedOrders=true:=by kernel_rfl
  go_enter Tryd.func19,Tryd.ntmps19
  go_wp2
  go_region
  all_goals (go_wp2; go_ret; exact ⟨rfl,rfl⟩)
theorem b_String {off:Nat} {cs:List AV} {l:List UInt8} (hl63:l.length≤9223372036854775807) (hc:cs[off+1]? = some (.own 5 1 (l.map cU))) (hb:(AV.box (cs.set (off+1) .junk)).backOk=true):ACall Tryd.prog 19 [.bp virtBase off] [.box cs] (.d (.str l)) [.box (cs.set (off+1) .junk)] :=
  ACall.bString ⟨_,Tryd.func19,by kernel_rfl,by kernel_rfl⟩ Tryd.underlying70 (by kernel_rfl) (by decide) bs_walk hl63 hc hb
set_option maxRecDepth 20000
/-- (*strings.Builder).WriteString -/
def strings_Builder_WriteString (F:Nat) (a0:List UInt8) (c1:List UInt8):Option (Int×Unit×(List UInt8)) :=
  chk (c1.length+a0.length≤4294967296) <|
  some ((a0.length:Int),(),(c1++a0))
theorem strings_Builder_WriteString_ok {F:Nat} {a0:List UInt8} {c1:List UInt8} {r:Int×Unit×(List UInt8)} (h:strings_Builder_WriteString F a0 c1=some r):ACall Tryd.prog 18 [.bp 1000000 0,.d (.str a0)] [.box [.slf 0 57,.own 5 1 (c1.map cU)]] (.tup [.d (.v (.int .i64 r.1)),.d (.v .nilIface)]) [.box [.slf 0 57,.own 5 1 (r.2.2.map cU)]]:=by
  rw [strings_Builder_WriteString] at h
  refine ACall.intro (N:=19) Tryd.func18 rfl rfl rfl rfl rfl fun e=>?_
  refine T_reg [] [0,1,1000000] [] [] 2 (by kernel_rfl) (trivial) ?_
  refine T_reg [(1,{ xs:=[1000000],res:=.tup [],vout:=[.box [.slf 0 57,.own 5 1 (c1.map cU)]] })] [0,1,1000000] [] [(1,ACall Tryd.prog 27 [.bp 1000000 0] [.box [.slf 0 57,.own 5 1 (c1.map cU)]] (.tup []) [.box [.slf 0 57,.own 5 1 (c1.map cU)]])] 0 (by kernel_rfl) (b_copyCheck (E:=57) (by kernel_rfl) (by kernel_rfl) (by kernel_rfl)) ?_
  obtain ⟨hp1,h⟩:=chk_ok h
  refine T_reg [(6,{ es:=some ((c1++a0).map cU) })] [1,1000000] [(1000000,.box [.slf 0 57,.own 5 1 ((c1++a0).map cU)])] [(6,(c1.map cU).length+(a0.map cU).length≤4294967296∧(c1.map cU)++(a0.map cU)=((c1++a0).map cU))] 3 (by kernel_rfl) (app_ok cU hp1) ?_
  refine T_reg [] [4,5,1000000] [(4,.d (.v (.int .i64 (a0.length:Int)))),(5,.d (.v .nilIface))] [] 4 (by kernel_rfl) (trivial) ?_
  obtain hs:=Option.some.inj h; subst hs
  refine T_ret fun a w hm=>T_return (fr':=[(4,.d (.v (.int .i64 (a0.length:Int)))),(5,.d (.v .nilIface)),(1000000,.box [.slf 0 57,.own 5 1 ((c1++a0).map cU)])]) [4,5] (by kernel_rfl) [.keep [4,5,1000000]] (by kernel_rfl) (by kernel_rfl) (by kernel_rfl) (by show _=_; kernel_rfl) (by exact ⟨⟨by kernel_rfl,by kernel_rfl⟩,trivial⟩) a w hm
end Go.Vm.ArcB
