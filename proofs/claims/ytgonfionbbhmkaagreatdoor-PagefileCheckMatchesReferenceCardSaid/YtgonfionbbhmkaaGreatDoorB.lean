/-
  Texts.
-/
import Derived.Test.YtgonfionbbhmkaaGreatDoorProg
import Derived.Test.YtgonfionbbhmkaaGreatDoorVmC
import Derived.WalkKit
import Derived.Shelf.RegionOpenPlain
import Derived.Laws.Externs
import Derived.Test.YtgonfionbbhmkaaGreatDoorS
import Derived.Test.YtgonfionbbhmkaaGreatDoorVmD
import Derived.Lib.AppendIntMem
import Derived.Lib.AtoiErrMem
import Derived.Shelf.Strings.SlTrimAscii
import Derived.Deep.RegionLaw
import Derived.Deep.RegionLawGrows
import Derived.Lib.Walk
import Derived.Lib.SliceRun
import Derived.Shelf.Spec.SlicesInsert
import Derived.Shelf.Spec.SlicesInsertGrow
import Derived.Test.YtgonfionbbhmkaaGreatDoorF
namespace Go.Vm.PgfG
open Go.Proofs Go.RowKit
set_option maxHeartbeats 1000000 in
set_option maxRecDepth 100000 in
theorem cT3 (b off:Nat) (w:World) (h0:w.cell? ⟨b,off,none⟩=some (.pointer (some ⟨b,off,none⟩))) :
  Calls Tryz.prog 71 #[.pointer (some ⟨b,off,none⟩)] w fun e w'=>e=.returned (.tuple #[])∧w'=w:=by
 have hp:Tryz.prog.underlying 92=some (.pointer 94):=Tryz.underlying92
 obtain ⟨j,hj,_⟩:∃ j,Tryz.prog.info? 94=some j∧j.size≠0:=⟨_,rfl,by decide⟩
 go_enter Tryz.func71,Tryz.ntmps71
 go_wp2
 rw [Lib.run_neq_ptr_same w _ hp hj]
 go_wp2
 go_end0
 exact ⟨rfl,rfl⟩
set_option maxHeartbeats 1000000 in
set_option maxRecDepth 100000 in
theorem cK7 (b off E n:Nat) (w:World) (h0:w.cell? ⟨b,off,none⟩=some (.pointer none)) (hsh:w.shape? b=some (E,n)) (hoff:off < n) (hlies:liesAt Tryz.prog Tryz.prog.depth E (n / Tryz.prog.cellsOf E) off 94 1=true) (hfz:w.frozen? ⟨b,off,none⟩=false) :
  Calls Tryz.prog 71 #[.pointer (some ⟨b,off,none⟩)] w fun e w'=>e=.returned (.tuple #[])∧w'=w.setCell ⟨b,off,none⟩ (.pointer (some ⟨b,off,none⟩)):=by
 have hp:Tryz.prog.underlying 92=some (.pointer 94):=Tryz.underlying92
 have hu:Tryz.prog.underlying 168=some .unsafePointer:=Tryz.underlying168
 obtain ⟨j,hj,hjs⟩:∃ j,Tryz.prog.info? 94=some j∧j.size≠0:=⟨_,rfl,by decide⟩
 go_enter Tryz.func71,Tryz.ntmps71
 go_wp2
 rw [Lib.run_to_unsafe w ⟨b,off,none⟩ hp hu hj hjs hsh hoff]
 simp only [Result.andThen]
 rw [Oper.upon_value]
 go_wp2
 rw [run_callFunc_extern Tryz.func116 (by kernel_rfl) (by kernel_rfl) (by kernel_rfl) (e:=Extern.AbiNoEscape.same) (by kernel_rfl)]
 rw [Lib.run_noEscape]
 simp only [Result.andThen]
 rw [Oper.upon_value]
 go_wp2
 rw [Lib.run_from_unsafe w ⟨b,off,none⟩ hu hp hj hsh hlies]
 simp only [Result.andThen]
 rw [Oper.upon_value]
 go_wp2
 go_end0
 exact ⟨rfl,rfl⟩
theorem wR {off E:Nat} {cs:List AV} (hc:cs[off]? = some (.slf off E)) (hlies:liesAt Tryz.prog Tryz.prog.depth E (cs.length / Tryz.prog.cellsOf E) off 94 1=true) (hb:(AV.box cs).rO=true):aG Tryz.prog 71 [.bp aD off] [.box cs] (.tup []) [.box cs] :=
 aG.copyCheck (tb:=94) ⟨_,Tryz.func71,by kernel_rfl,by kernel_rfl⟩ cT3 cK7 hc hlies hb
set_option maxHeartbeats 1000000 in
set_option maxRecDepth 100000 in
theorem cS8 (b off n c:Nat) (q p:Option Addr) (s:ByteArray) (w w1 w2:World) (c1:w.drew.cell? ⟨b,off+1,none⟩=some (.slice q n c)) (c2:w1.cell? ⟨b,off+1,none⟩=some (.slice q n c))
  (hSD:(Builtin.unsafeSliceData_ #[32] 132 #[.slice q n c]).run Tryz.prog w.drew=.ok (.pointer p) w1) (hUS:(Builtin.unsafeString_ #[132,3] 9 #[.pointer p,.int .i64 n]).run Tryz.prog w1=.ok (.string s) w2) :
  Calls Tryz.prog 51 #[.pointer (some ⟨b,off,none⟩)] w fun e w'=>e=.returned (.string s)∧w'=w2:=by
 have mixed:Tryz.prog.follows .mixedOrders=true:=by kernel_rfl
 go_enter Tryz.func51,Tryz.ntmps51
 go_wp2
 go_region
 all_goals (go_wp2; go_ret; exact ⟨rfl,rfl⟩)
theorem nK {off:Nat} {cs:List AV} {l:List UInt8} (hl63:l.length≤9223372036854775807) (hc:cs[off+1]? = some (.own 5 1 (l.map cU))) (hb:(AV.box (cs.set (off+1) .junk)).rO=true):aG Tryz.prog 51 [.bp aD off] [.box cs] (.d (.str l)) [.box (cs.set (off+1) .junk)] :=
 aG.cR5 ⟨_,Tryz.func51,by kernel_rfl,by kernel_rfl⟩ Tryz.underlying132 (by kernel_rfl) (by decide) cS8 hl63 hc hb
theorem cT6 {l:List UInt8} (h:l.length≤281474976710656):aG Tryz.prog 148 [.d (.str l)] [] (.d (.str l)) [] :=
 aG.vJ ⟨_,Tryz.func148,by kernel_rfl,by kernel_rfl⟩ (us:=[strOf l]) (u:=strOf l) rfl rfl rfl fun w=>Tryz.stringslite_Clone ⟨l.toArray⟩ w (by simpa [ByteArray.size] using h)
theorem zY {l:List UInt8} {c:Int}:aG Tryz.prog 175 [.d (.str l),.d (.v (.int .u8 c))] [] (.d (.v (.int .i64 (Lib.indexByte l c.toNat.toUInt8)))) [] :=
 aG.vJ ⟨_,Tryz.func175,by kernel_rfl,by kernel_rfl⟩ (us:=[strOf l,.int .u8 c]) (u:=.int .i64 (Lib.indexByte l c.toNat.toUInt8)) rfl rfl rfl fun w=>(Tryz.strings_IndexByte ⟨l.toArray⟩ c w).mono (by rintro e w' ⟨rfl,rfl⟩; exact ⟨rfl,Below.refl _ _⟩)
theorem cM9 {l:List UInt8} {n:Int} (h:0≤n∧n≤9223372036854775807∧l.length * n.toNat≤140737488355328):aG Tryz.prog 257 [.d (.str l),.d (.v (.int .i64 n))] [] (.d (.str (Lib.repeatL l n.toNat))) [] :=
 aG.vJ ⟨_,Tryz.func257,by kernel_rfl,by kernel_rfl⟩ (us:=[strOf l,.int .i64 n]) (u:=strOf (Lib.repeatL l n.toNat)) rfl rfl rfl fun w=>by
  have:=Tryz.strings_Repeat ⟨l.toArray⟩ n.toNat w (by omega) (by simpa [ByteArray.size] using h.2.2)
  rw [Int.toNat_of_nonneg h.1] at this
  exact this
theorem bM7 {n:Int} (h : -9223372036854775808≤n∧n≤9223372036854775807):aG Tryz.prog 79 [.d (.v (.int .i64 n))] [.glo 6 (aA.flatMap (cI .u64))] (.d (.str (Lib.itoa n))) [.glo 6 (aA.flatMap (cI .u64))] :=
 aG.cL0 ⟨_,Tryz.func79,by kernel_rfl,by kernel_rfl⟩ (us:=[.int .i64 n]) (u:=strOf (Lib.itoa n)) rfl rfl rfl fun w S hg=>(Tryz.strconv_Itoa n h.1 h.2 w (TabIs.cW4 (by kernel_rfl) hg)).mono (by rintro e w' ⟨rfl,k,os,rfl⟩; exact ⟨rfl,Lib.below_grow _ _ (Nat.le_refl _) _ _⟩)
theorem bH5 {l c:List UInt8} (h:c.length=1):aG Tryz.prog 104 [.d (.str l),.d (.str c)] [] (.d (.v (.int .i64 (Lib.indexByte l (c.getD 0 0))))) []:=by
 obtain ⟨x,rfl⟩:∃ x,c=[x]:=by
  match c,h with
  | [x],_=>exact ⟨x,rfl⟩
 exact aG.vJ ⟨_,Tryz.func104,by kernel_rfl,by kernel_rfl⟩ (us:=[strOf l,strOf [x]]) (u:=.int .i64 (Lib.indexByte l x)) rfl rfl rfl fun w=>by
  refine (Tryz.strings_Index_one ⟨l.toArray⟩ x w).mono ?_
  rintro e w' ⟨rfl,rfl⟩
  exact ⟨rfl,Below.refl _ _⟩
theorem bJ2 {l c:List UInt8} (h:c.length=1):aG Tryz.prog 101 [.d (.str l),.d (.str c)] [] (.d (.v (.int .i64 (Lib.indexByte l (c.getD 0 0))))) []:=by
 obtain ⟨x,rfl⟩:∃ x,c=[x]:=by
  match c,h with
  | [x],_=>exact ⟨x,rfl⟩
 exact aG.vJ ⟨_,Tryz.func101,by kernel_rfl,by kernel_rfl⟩ (us:=[strOf l,strOf [x]]) (u:=.int .i64 (Lib.indexByte l x)) rfl rfl rfl fun w=>by
  refine (Tryz.stringslite_Index_one ⟨l.toArray⟩ x w).mono ?_
  rintro e w' ⟨rfl,rfl⟩
  exact ⟨rfl,Below.refl _ _⟩
theorem bK3 {l c:List UInt8} (h:c.length=1):aG Tryz.prog 103 [.d (.str l),.d (.str c)] [] (.d (.v (.int .i64 (Lib.countByte l (c.getD 0 0))))) []:=by
 obtain ⟨x,rfl⟩:∃ x,c=[x]:=by
  match c,h with
  | [x],_=>exact ⟨x,rfl⟩
 exact aG.vJ ⟨_,Tryz.func103,by kernel_rfl,by kernel_rfl⟩ (us:=[strOf l,strOf [x]]) (u:=.int .i64 (Lib.countByte l x)) rfl rfl rfl fun w=>by
  refine (Tryz.strings_Count_one ⟨l.toArray⟩ x w).mono ?_
  rintro e w' ⟨rfl,rfl⟩
  exact ⟨rfl,Below.refl _ _⟩
theorem bM1 {l:List UInt8} {v:Int} (h:l.length≤9223372036854775806) (hv:bG8 l=some v):aG Tryz.prog 69 [.d (.str l)] [] (.tup [.d (.v (.int .i64 v)),.d (.v .nilIface)]) [] :=
 aG.vJ ⟨_,Tryz.func69,by kernel_rfl,by kernel_rfl⟩ (us:=[strOf l]) (u:=.tuple #[.int .i64 v,.nilIface]) rfl rfl rfl fun w=>by
  have h0:Lib.atoiAll l=.ok v:=by
   unfold bG8 at hv
   split at hv
   ·rename_i h0; cases hv; exact h0
   ·cases hv
  refine (Tryz.strconv_Atoi_ok ⟨l.toArray⟩ (by simpa [ByteArray.size] using h) v h0 w).mono ?_
  rintro e w' ⟨rfl,rfl | ⟨t,rfl⟩⟩
  ·exact ⟨rfl,Below.refl _ _⟩
  ·exact ⟨rfl,Lib.bytesWorld_below _ _ _⟩
theorem aD8 {l : List UInt8} {q : Int → Option Bool} {r : Bool} (g : Nat) (hg1 : (Tryz.prog.funcs[g]?).map (fun f => f.body.isNone) = some false) (hg2 : (Tryz.prog.funcs[g]?).map (fun f => f.name == "runtime.NumGoroutine") = some false)
  (hq:∀ (x:Int) (b:Bool),q x=some b→aG Tryz.prog g [.d (.v (.int .i32 x))] [] (.d (.v (.bool b))) []) (h:xZ q l=some r):aG Tryz.prog 229 [.d (.str l),.clo g []] [] (.d (.v (.bool r))) [] :=
 aG.vJ ⟨_,Tryz.func229,by kernel_rfl,by kernel_rfl⟩ (us:=[strOf l,.func (.func g) #[] #[]]) (u:=.bool r) rfl rfl rfl fun w=>by
  obtain ⟨h1,h2⟩:=bI0 h
  refine (Tryz.strings_ContainsFunc_grows g #[] (cN6 hg1 hg2) (fun x=>(q x).getD false) ⟨l.toArray⟩ w ?_).mono ?_
  ·intro W x hx _
   obtain ⟨b,hb⟩:=Option.isSome_iff_exists.1 (h1 x hx)
   have:=(hq x b hb).below (us:=[.int .i32 x]) (u:=.bool b) rfl (show 1 < aS by decide) rfl W
   have hb':(q ↑x).getD false=b:=by rw [hb]; rfl
   subst hb'
   exact this
  ·rintro e w' ⟨rfl,hb⟩
   rw [h2]
   exact ⟨rfl,hb⟩
/- Tryz.strings_Trim_one -/
theorem cY4 {l c:List UInt8} (h:l.length≤9223372036854775807) (hc:c.length < 4294967281∧∀ b∈c,b.toNat < 128):aG Tryz.prog 122 [.d (.str l),.d (.str c)] [] (.d (.str (Lib.trimS l c))) [] :=
 aG.vJ ⟨_,Tryz.func122,by kernel_rfl,by kernel_rfl⟩ (us:=[strOf l,strOf c]) (u:=strOf (Lib.trimS l c)) rfl rfl rfl fun w=>Any.strings_Trim_laid Tryz.cA7 (by kernel_rfl) ⟨l.toArray⟩ ⟨c.toArray⟩ w (by simpa [ByteArray.size] using h) (by simpa [ByteArray.size] using hc.1) fun j b hb=>hc.2 b (List.mem_of_getElem? hb)
set_option maxHeartbeats 4000000 in
set_option maxRecDepth 1000000 in
theorem cU2 (b off n c vb voff vc:Nat) (w:World) (vs:List Value) (hvl:vs.length=1 * 7) (hroom:n+1≤c)
  (hvs:∀ t v,vs[t]? = some v→w.cell? ⟨vb,voff+t,none⟩=some v) (h1v:∀ v∈vs,v.oneCell'=true)
  (hsp:∀ j,j < vs.length→(w.cell? ⟨b,off+n * 7+j,none⟩).isSome=true∧w.frozen? ⟨b,off+n * 7+j,none⟩=false) :
  Calls Tryz.prog 68 #[.slice (some ⟨b,off,none⟩) n c,.int .i64 n,.slice (some ⟨vb,voff,none⟩) 1 vc] w fun e w'=>e=.returned (.slice (some ⟨b,off,none⟩) (n+1) c)∧w'=w.setCells b (off+n * 7) vs:=by
 have mixed:Tryz.prog.follows .mixedOrders=true:=by kernel_rfl
 have tT:Tryz.prog.underlying 22=some (.slice 49):=Tryz.underlying22
 obtain ⟨ie,hie,hsz⟩:∃ i0,Tryz.prog.info? 49=some i0∧i0.size=7:=⟨_,rfl,rfl⟩
 have s1:Hid (vs.length=1 * 7):=hvl
 have s2:Hid (∀ u∈vs,u.oneCell'=true):=h1v
 have s3:Hid (∀ t u,vs[t]? = some u→w.cell? ((⟨vb,voff,none⟩:Addr).add t)=some u):=fun t u h=>by rw [Addr.add_lit]; exact hvs t u h
 have s4:Hid (∀ j,j < vs.length→(w.cell? ⟨b,off+n * 7+j,none⟩).isSome=true∧w.frozen? ⟨b,off+n * 7+j,none⟩=false):=hsp
 obtain ⟨W1,hW1⟩:∃ W1,W1=w.setCells b (off+n * 7) vs:=⟨_,rfl⟩
 have happ:∀ ty,(Builtin.append_ #[22,22] ty #[.slice (some ⟨b,off,none⟩) n c,.slice (some ⟨vb,voff,none⟩) 1 vc]).run Tryz.prog w=.ok (.slice (some ⟨b,off,none⟩) (n+1) c) W1:=fun ty=>by
  have h:=run_append_room_cells (P:=Tryz.prog) w 22 ty 49 ie tT hie b off n c ⟨vb,voff,none⟩ 1 vc vs (by rw [hsz]; exact hvl) s3.out h1v hroom (by rw [hsz]; exact fun j hj=>(hsp j hj).1) (by rw [hsz]; exact fun j hj=>(hsp j hj).2)
  rw [hsz] at h
  rw [hW1]
  exact h
 have hW:Hid (W1=w.setCells b (off+n * 7) vs):=hW1
 have hnc:n≤c:=by omega
 clear hW1 hvl h1v hvs hsp
 go_enter Tryz.func68,Tryz.ntmps68
 go_wp2_with (at_builtin; refine Lib.wpList_append_run _ rfl _ _ _ _ rfl _ _ rfl rfl _ _ (happ _) ?_)
 go_wp2
 go_ret
 exact ⟨rfl,hW.out⟩
set_option maxHeartbeats 4000000 in
set_option maxRecDepth 1000000 in
theorem cU4 (base:Option Addr) (n c vb voff vc:Nat) (w:World) (cs vs:List Value) (hvl:vs.length=1 * 7) (hnc:n≤c) (hroom:c < n+1) (hn:n≤4294967296)
  (hold:∀ w':World,w'.heap=w.heap→(Builtin.firstCells 7 n (.slice base n c)).run Tryz.prog w'=.ok cs.toArray w')
  (hvs:∀ t v,vs[t]? = some v→w.cell? ⟨vb,voff+t,none⟩=some v) (h1v:∀ v∈vs,v.oneCell'=true) :
  Calls Tryz.prog 68 #[.slice base n c,.int .i64 n,.slice (some ⟨vb,voff,none⟩) 1 vc] w fun e w'=>∃ (G:Nat) (zz:Array Value),n+1≤G∧zz.size=(G - (n+1)) * 7∧e=.returned (.slice (some ⟨w.heap.size,0,none⟩) (n+1) G)∧w'=w.drew.alloc (.cells ((cs++vs).toArray++zz) 49):=by
 have mixed:Tryz.prog.follows .mixedOrders=true:=by kernel_rfl
 have tT:Tryz.prog.underlying 22=some (.slice 49):=Tryz.underlying22
 obtain ⟨ie,z,hie,hsz,hbz,hzz,hzs⟩:∃ i0 z,Tryz.prog.info? 49=some i0∧i0.size=7∧i0.bytes≤1000∧i0.zero=some z∧z.cells.size=7:=⟨_,_,rfl,rfl,by decide,rfl,rfl⟩
 have hsrc:Src Tryz.prog w 22 ie.size (.slice (some ⟨vb,voff,none⟩) 1 vc) 1 vs:=⟨.inl ⟨_,tT⟩,rfl,fun w' hw'=>run_firstCells_some (P:=Tryz.prog) w' ie.size 1 ⟨vb,voff,none⟩ 1 vc vs (by rw [hsz]; exact hvl) (fun t u h=>by
  rw [Addr.add_lit]
  have:=hvs t u h
  simpa [World.cell?,hw'] using this),by rw [hsz]; exact hvl,h1v⟩
 obtain ⟨G,hG⟩:∃ G,G=grownCap w (n+1) c 49:=⟨_,rfl⟩
 have hGn:n+1≤G:=by rw [hG]; exact grownCap_ge w _ _ _
 have hb:(n+1) * ie.bytes≤140737488355328:=by
  have:(n+1) * ie.bytes≤(n+1) * 1000:=Nat.mul_le_mul_left _ hbz
  omega
 obtain ⟨zz,hz2⟩:∃ zz,zz=Builtin.zeroCells z.cells (G - (n+1)):=⟨_,rfl⟩
 have hzzs:zz.size=(G - (n+1)) * 7:=by rw [hz2]; simp [Builtin.zeroCells,hzs]
 obtain ⟨W1,hW1⟩:∃ W1,W1=w.drew.alloc (.cells ((cs++vs).toArray++zz) 49):=⟨_,rfl⟩
 have happ:∀ ty,(Builtin.append_ #[22,22] ty #[.slice base n c,.slice (some ⟨vb,voff,none⟩) 1 vc]).run Tryz.prog w=.ok (.slice (some ⟨w.heap.size,0,none⟩) (n+1) G) W1:=fun ty=>by
  have h:=run_append_grow' (P:=Tryz.prog) (w:=w) (ty:=ty) 22 22 49 ie z tT hie hzz base n c cs (by rw [hsz]; exact hold) hsrc hroom (by omega) hb
  rw [hW1,hz2,hG,show (cs++vs).toArray=cs.toArray++vs.toArray by simp]
  exact h
 have hW:Hid (W1=w.drew.alloc (.cells ((cs++vs).toArray++zz) 49)):=hW1
 have hZ:Hid (zz.size=(G - (n+1)) * 7):=hzzs
 clear hW1 hvl h1v hvs hold hsrc hz2 hzzs hb hG hie hsz hbz hzz hzs
 go_enter Tryz.func68,Tryz.ntmps68
 go_wp2_with (at_builtin; refine Lib.wpList_append_run _ rfl _ _ _ _ rfl _ _ rfl rfl _ _ (happ _) ?_)
 go_wp2
 go_ret
 exact ⟨G,zz,hGn,hZ.out,rfl,hW.out⟩
set_option maxHeartbeats 4000000 in
set_option maxRecDepth 1000000 in
theorem cR3 (b off n c i vb voff vc:Nat) (w:World) (cs vs:List Value) (hcl:cs.length=n * 7) (hvl:vs.length=1 * 7) (hi:i < n) (hroom:n+1≤c) (hc63:n≤4294967296) (hvb:vb≠b)
  (hcs:∀ t v,cs[t]? = some v→w.cell? ⟨b,off+t,none⟩=some v) (hsp:∀ j,j < (n+1) * 7→(w.cell? ⟨b,off+j,none⟩).isSome=true) (hfz:∀ j,j < (n+1) * 7→w.frozen? ⟨b,off+j,none⟩=false)
  (hvs:∀ t v,vs[t]? = some v→w.cell? ⟨vb,voff+t,none⟩=some v) (h1c:∀ v∈cs,v.oneCell'=true) (h1v:∀ v∈vs,v.oneCell'=true)
  (tA tB:TypeId) (kA kB:Nat) (hsa:w.shape? vb=some (tA,kA)) (hsb:w.shape? b=some (tB,kB)) (hkB:kB≠0) (hfa:w.frozen? ⟨vb,voff,none⟩=false) (hfe:w.frozen? ⟨vb,kA,none⟩=false) :
  Calls Tryz.prog 68 #[.slice (some ⟨b,off,none⟩) n c,.int .i64 i,.slice (some ⟨vb,voff,none⟩) 1 vc] w fun e w'=>e=.returned (.slice (some ⟨b,off,none⟩) (n+1) c)∧w'=(w.drew.setCells b (off+(i+1) * 7) (cs.drop (i * 7))).setCells b (off+i * 7) vs:=by
 have mixed:Tryz.prog.follows .mixedOrders=true:=by kernel_rfl
 have tT:Tryz.prog.underlying 22=some (.slice 49):=Tryz.underlying22
 have hsz:(Tryz.prog.info? 49).map (·.size)=some 7:=rfl
 have hov:∀ lb cb,(callFunc 112 #[.slice (some ⟨vb,voff,none⟩) 1 vc,.slice (some ⟨b,off+(i+1) * 7,none⟩) lb cb]).run Tryz.prog w=.ok (.value (.bool false)) w:=fun lb cb=>by
  rw [run_callFunc_extern Tryz.func112 (by kernel_rfl) (by kernel_rfl) (by kernel_rfl) (e:=Extern.SlicesOverlaps.overlaps #[22,22] #[4]) (by kernel_rfl),
   Lib.run_overlaps_apart w 22 4 49 tT 7 Tryz.sizeOf49 ⟨vb,voff,none⟩ ⟨b,off+(i+1) * 7,none⟩ 1 vc lb cb hvb tA tB kA kB hsa hsb hkB hfa hfe]
  rfl
 have hdl:(cs.drop (i * 7)).length=(n - i) * 7:=by rw [List.length_drop,hcl]; omega
 have hw1:IntKind.i64.wrap ((i:Int)+1)=(i:Int)+1:=by rw [IntKind.wrap_i64]; omega
 have hw2:IntKind.i64.wrap ((n:Int)+1)=(n:Int)+1:=by rw [IntKind.wrap_i64]; omega
 have hb1:(0:Int)≤(i:Int)+1:=by omega
 have hin:i≤n:=by omega
 have htn:((i:Int)+1).toNat=i+1:=by omega
 have htn2:((n:Int)+1).toNat=n+1:=by omega
 have hb2:¬ (c=i+1):=by omega
 have hb3:(i:Int)≤(n:Int)+1:=by omega
 have hb4:¬ (c=i):=by omega
 have hz2:¬ ((i:Int)=(n:Int)):=by omega
 have hz3:¬ ((c:Int) < (n:Int)+1):=by omega
 have hcp1:∀ ty dc sc,(Builtin.copy_ #[22,22] ty #[.slice (some ⟨b,off+(i+1) * 7,none⟩) (n - i) dc,.slice (some ⟨b,off+i * 7,none⟩) (n+1 - i) sc]).run Tryz.prog w.drew=.ok (goInt (n - i:Nat)) (w.drew.setCells b (off+(i+1) * 7) (cs.drop (i * 7))):=fun ty dc sc =>
  jR w.drew _ _ ty 49 7 b (off+(i+1) * 7) (n - i) dc ⟨b,off+i * 7,none⟩ (n+1 - i) sc (n - i) (by omega) (cs.drop (i * 7)) tT hsz hdl
   (fun j v hj=>by rw [Addr.add_lit,Nat.add_assoc]; exact hcs (i * 7+j) v (by rwa [List.getElem?_drop] at hj))
   (fun j hj=>by rw [Nat.add_assoc]; exact hsp _ (by omega)) (fun j hj=>by rw [Nat.add_assoc]; exact hfz _ (by omega)) (fun v hv=>h1c v (List.mem_of_mem_drop hv))
 obtain ⟨W1,hW1⟩:∃ W1,W1=w.drew.setCells b (off+(i+1) * 7) (cs.drop (i * 7)):=⟨_,rfl⟩
 have hsp1:∀ k,k < (n+1) * 7→(W1.cell? ⟨b,off+k,none⟩).isSome=true:=fun k hk=>by
  rw [hW1]
  exact oI b _ _ _ (fun j hj=>by rw [Nat.add_assoc]; exact hsp _ (by omega)) _ (hsp k hk)
 have hcp2:∀ (W:World),(∀ x,W.cell? x=W1.cell? x)→(∀ x,W.frozen? x=W1.frozen? x)→∀ ty dc,(Builtin.copy_ #[22,22] ty #[.slice (some ⟨b,off+i * 7,none⟩) (n+1 - i) dc,.slice (some ⟨vb,voff,none⟩) 1 vc]).run Tryz.prog W=.ok (goInt (1:Nat)) (W.setCells b (off+i * 7) vs):=fun W hWc hWf ty dc =>
  jR W _ _ ty 49 7 b (off+i * 7) (n+1 - i) dc ⟨vb,voff,none⟩ 1 vc 1 (by omega) vs tT hsz hvl
   (fun j v hj=>by
    rw [Addr.add_lit,hWc,hW1,World.cell?_setCells_out b _ _ _ _ (fun h _=>absurd h hvb)]
    exact hvs j v hj)
   (fun j hj=>by rw [hWc,Nat.add_assoc]; exact hsp1 _ (by omega)) (fun j hj=>by rw [hWf,hW1,World.frozen?_setCells,Nat.add_assoc]; exact hfz _ (by omega)) h1v
 rw [← hW1] at hcp1
 have hW:Hid (W1=w.drew.setCells b (off+(i+1) * 7) (cs.drop (i * 7))):=hW1
 clear hdl hsp1 hcs hsp hfz hvs h1c h1v hsa hsb hkB hfa hfe hcl hvl
 go_enter Tryz.func68,Tryz.ntmps68
 go_wp2_with (simp only [hov])
 go_region_law_o (refine step_copy_runI rfl _ _ 22 22 rfl _ _ (by simp [Act.eval,Act.put]) (by simp [Act.eval,Act.put]) (hcp1 _ _ _) ?_)
 go_wp2_with (at_builtin; refine wpList_copy_runI _ rfl _ _ 22 22 rfl _ _ rfl rfl (hcp2 _ (fun _=>rfl) (fun _=>rfl) _ _) ?_)
 go_ret
 first | exact ⟨rfl,rfl⟩ | exact ⟨rfl,by rw [hW1]⟩ | exact ⟨rfl,by rw [hW.out]⟩
set_option maxHeartbeats 4000000 in
set_option maxRecDepth 1000000 in
theorem cR9 (b off n c i vb voff vc:Nat) (w:World) (cs vs:List Value) (hcl:cs.length=n * 7) (hvl:vs.length=1 * 7) (hi:i < n) (hnc:n≤c) (hroom:c < n+1) (hc63:n≤4294967296) (hbw:b < w.heap.size) (hvw:vb < w.heap.size)
    (hcs:∀ t v,cs[t]? = some v→w.cell? ⟨b,off+t,none⟩=some v)
    (hvs:∀ t v,vs[t]? = some v→w.cell? ⟨vb,voff+t,none⟩=some v) (h1c:∀ v∈cs,v.oneCell'=true) (h1v:∀ v∈vs,v.oneCell'=true) :
    Calls Tryz.prog 68 #[.slice (some ⟨b,off,none⟩) n c,.int .i64 i,.slice (some ⟨vb,voff,none⟩) 1 vc] w fun e w'=>∃ (G:Nat) (ROW:Array Value),n+1≤G∧ROW.size=G * 7∧(∀ t,t < i * 7→ROW[t]? = cs[t]?)∧e=.returned (.slice (some ⟨w.heap.size,0,none⟩) (n+1) G) ∧
      w'=(((w.alloc (.cells ROW 49)).drew.setCells w.heap.size (i * 7) vs).drew).setCells w.heap.size ((i+1) * 7) (cs.drop (i * 7)):=by
  have mixed:Tryz.prog.follows .mixedOrders=true:=by kernel_rfl
  have tT:Tryz.prog.underlying 22=some (.slice 49):=Tryz.underlying22
  have hsz:(Tryz.prog.info? 49).map (·.size)=some 7:=rfl
  obtain ⟨ie,z,hie,hsz5,hbz,hzz,hzs⟩:∃ i0 z,Tryz.prog.info? 49=some i0∧i0.size=7∧i0.bytes≤1000∧i0.zero=some z∧z.cells.size=7:=⟨_,_,rfl,rfl,by decide,rfl,rfl⟩
  have hkk:(n:Int)+1 - (i:Int)=((n+1 - i:Nat):Int):=by omega
  have hik:i+(n+1 - i)=n+1:=by omega
  have htl:(cs.take (i * 7)).length=i * 7:=by rw [List.length_take,hcl]; omega
  have hold:(Builtin.firstCells ie.size i (.slice (some ⟨b,off,none⟩) i c)).run Tryz.prog w.drew=.ok (cs.take (i * 7)).toArray w.drew :=
    run_firstCells_some (P:=Tryz.prog) w.drew ie.size i ⟨b,off,none⟩ i c (cs.take (i * 7)) (by rw [hsz5]; exact htl) (fun t u h=>by
      rw [Addr.add_lit]
      rw [List.getElem?_take] at h
      split at h
      · exact hcs t u h
      · cases h)
  have hb:(n+1) * ie.bytes≤140737488355328:=by
    have:(n+1) * ie.bytes≤(n+1) * 1000:=Nat.mul_le_mul_left _ hbz
    omega
  have hb':(n+1 - i) * ie.bytes≤281474976710656:=by
    have:(n+1 - i) * ie.bytes≤(n+1) * ie.bytes:=Nat.mul_le_mul_right _ (by omega)
    omega
  have hrz:∀ ty,(Builtin.append_ #[22,3] ty #[.slice (some ⟨b,off,none⟩) i c,.int .i64 ((n:Int)+1 - (i:Int))]).run Tryz.prog w =
      .ok (.slice (some ⟨w.heap.size,0,none⟩) (n+1) (grownCap w (n+1) c 49)) (w.drew.alloc (.cells ((cs.take (i * 7)).toArray++Builtin.zeroCells z.cells (n+1 - i)++Builtin.zeroCells z.cells (grownCap w (n+1) c 49 - (n+1))) 49)):=fun ty=>by
    have h:=Lib.run_append_grow_zeros w 22 3 ty 49 ie z .i64 .i64 tT Tryz.underlying3 hie hzz (some ⟨b,off,none⟩) i c (cs.take (i * 7)) hold (n+1 - i) (by omega) (by omega) (by omega) (by omega) hb' (by rw [hik]; exact growslice_fits hroom hb)
    rw [hik] at h
    rw [hkk]
    exact h
  obtain ⟨G,hG⟩:∃ G,G=grownCap w (n+1) c 49:=⟨_,rfl⟩
  have hGn:n+1≤G:=by rw [hG]; exact grownCap_ge w _ _ _
  obtain ⟨ROW,hROW⟩:∃ ROW:Array Value,ROW=(cs.take (i * 7)).toArray++Builtin.zeroCells z.cells (n+1 - i)++Builtin.zeroCells z.cells (G - (n+1)):=⟨_,rfl⟩
  rw [← hG] at hrz
  rw [← hROW] at hrz
  have hRs:ROW.size=G * 7:=by
    rw [hROW]
    simp only [Array.size_append,List.size_toArray,htl,Builtin.zeroCells,Array.size_map,Array.size_range,hzs]
    omega
  have hRt:∀ t,t < i * 7→ROW[t]? = cs[t]? := fun t ht=>by
    rw [hROW,Array.append_assoc,Array.getElem?_append_left (by simpa [htl] using ht)]
    simp [List.getElem?_take,ht]
  obtain ⟨W1,hW1⟩:∃ W1,W1=w.drew.alloc (.cells ROW 49):=⟨_,rfl⟩
  rw [← hW1] at hrz
  have hN:∀ j,j < G * 7→(W1.cell? ⟨w.heap.size,j,none⟩).isSome=true:=fun j hj=>by
    rw [hW1,World.cell?_alloc_at (w:=w.drew) ROW _ w.heap.size j rfl,Array.getElem?_eq_getElem (by omega)]; rfl
  have hNf:∀ j,W1.frozen? ⟨w.heap.size,j,none⟩=false:=fun j=>by rw [hW1]; exact World.frozen?_alloc_at (w:=w.drew) ROW _ w.heap.size j rfl
  have hOb:∀ j v,w.cell? ⟨b,j,none⟩=some v→W1.cell? ⟨b,j,none⟩=some v:=fun j v h=>by rw [hW1,World.cell?_alloc_past (w:=w.drew) _ b j hbw]; exact h
  have hOv:∀ j v,w.cell? ⟨vb,j,none⟩=some v→W1.cell? ⟨vb,j,none⟩=some v:=fun j v h=>by rw [hW1,World.cell?_alloc_past (w:=w.drew) _ vb j hvw]; exact h
  have hcpA:∀ (W:World),(∀ x,W.cell? x=W1.cell? x)→(∀ x,W.frozen? x=W1.frozen? x)→∀ ty dc,(Builtin.copy_ #[22,22] ty #[.slice (some ⟨w.heap.size,i * 7,none⟩) (n+1 - i) dc,.slice (some ⟨vb,voff,none⟩) 1 vc]).run Tryz.prog W=.ok (goInt (1:Nat)) (W.setCells w.heap.size (i * 7) vs):=fun W hWc hWf ty dc =>
    jR W _ _ ty 49 7 w.heap.size (i * 7) (n+1 - i) dc ⟨vb,voff,none⟩ 1 vc 1 (by omega) vs tT hsz hvl
      (fun j v hj=>by rw [Addr.add_lit,hWc]; exact hOv _ v (hvs j v hj))
      (fun j hj=>by rw [hWc]; exact hN _ (by omega)) (fun j hj=>by rw [hWf]; exact hNf _) h1v
  have hG63:G≤9223372036854775807:=by
    have:=grownCap_le_maxLen w (n+1) c 49 (by unfold maxLen; omega)
    rw [← hG] at this
    unfold maxLen at this
    omega
  have hGi:¬ (G=i):=by omega
  have hGim:¬ (G=i+1):=by omega
  have hci:¬ (c=i):=by omega
  have hbN:b≠w.heap.size:=by omega
  have hdl:(cs.drop (i * 7)).length=(n - i) * 7:=by rw [List.length_drop,hcl]; omega
  have hcpB:∀ (W:World),(∀ x,W.cell? x=(W1.setCells w.heap.size (i * 7) vs).cell? x)→(∀ x,W.frozen? x=(W1.setCells w.heap.size (i * 7) vs).frozen? x)→∀ ty dc sc,(Builtin.copy_ #[22,22] ty #[.slice (some ⟨w.heap.size,(i+1) * 7,none⟩) (n - i) dc,.slice (some ⟨b,off+i * 7,none⟩) (n - i) sc]).run Tryz.prog W=.ok (goInt (n - i:Nat)) (W.setCells w.heap.size ((i+1) * 7) (cs.drop (i * 7))):=fun W hWc hWf ty dc sc =>
    jR W _ _ ty 49 7 w.heap.size ((i+1) * 7) (n - i) dc ⟨b,off+i * 7,none⟩ (n - i) sc (n - i) (by omega) (cs.drop (i * 7)) tT hsz hdl
      (fun j v hj=>by
        rw [Addr.add_lit,hWc,World.cell?_setCells_out _ _ _ _ _ (fun h _=>absurd h hbN),Nat.add_assoc]
        exact hOb _ v (hcs (i * 7+j) v (by rwa [List.getElem?_drop] at hj)))
      (fun j hj=>by rw [hWc]; exact oI _ _ _ _ (fun t ht=>hN _ (by omega)) _ (hN _ (by omega)))
      (fun j hj=>by rw [hWf,World.frozen?_setCells]; exact hNf _) (fun v hv=>h1c v (List.mem_of_mem_drop hv))
  subst hW1
  have hE1:∀ x,((w.alloc (.cells ROW 49)).drew).cell? x=(w.drew.alloc (.cells ROW 49)).cell? x:=fun x=>rfl
  have hE2:∀ x,((w.alloc (.cells ROW 49)).drew).frozen? x=(w.drew.alloc (.cells ROW 49)).frozen? x:=fun x=>rfl
  have hF1:∀ x,(((w.alloc (.cells ROW 49)).drew.setCells w.heap.size (i * 7) vs).drew).cell? x=((w.drew.alloc (.cells ROW 49)).setCells w.heap.size (i * 7) vs).cell? x:=fun x=>rfl
  have hF2:∀ x,(((w.alloc (.cells ROW 49)).drew.setCells w.heap.size (i * 7) vs).drew).frozen? x=((w.drew.alloc (.cells ROW 49)).setCells w.heap.size (i * 7) vs).frozen? x:=fun x=>rfl
  have hw1:IntKind.i64.wrap ((i:Int)+1)=(i:Int)+1:=by rw [IntKind.wrap_i64]; omega
  have hw2:IntKind.i64.wrap ((n:Int)+1)=(n:Int)+1:=by rw [IntKind.wrap_i64]; omega
  have hw3:IntKind.i64.wrap ((n:Int)+1 - (i:Int))=(n:Int)+1 - (i:Int):=by rw [IntKind.wrap_i64]; omega
  have hb1:(0:Int)≤(i:Int)+1:=by omega
  have hin:i≤n:=by omega
  have htn:((i:Int)+1).toNat=i+1:=by omega
  have hb3:(i:Int)≤(n:Int):=by omega
  have hz2:¬ ((i:Int)=(n:Int)):=by omega
  have hz3:(c:Int) < (n:Int)+1:=by omega
  have hZ1:Hid (ROW.size=G * 7):=hRs
  have hZ2:Hid (∀ t,t < i * 7→ROW[t]? = cs[t]?):=hRt
  clear hkk hik hold hROW hG hRs hRt hie hsz5 hbz hzz hzs hb hb' htl hN hNf hOb hOv hcs hvs h1c h1v hcl hvl hdl
  go_enter Tryz.func68,Tryz.ntmps68
  go_wp2_with (first
    | (at_builtin; refine Lib.wpList_append_run _ rfl _ _ _ _ rfl _ _ rfl rfl _ _ (hrz _) ?_)
    | (at_builtin; refine wpList_copy_runI _ rfl _ _ 22 22 rfl _ _ rfl rfl (hcpA _ hE1 hE2 _ _) ?_)
    | (at_builtin; refine wpList_copy_runI _ rfl _ _ 22 22 rfl _ _ rfl rfl (hcpB _ (fun _=>rfl) (fun _=>rfl) _ _ _) ?_))
  go_region_law_o (refine step_copy_runI rfl _ _ 22 22 rfl (.slice (some ⟨w.heap.size,(i+1) * 7,none⟩) (n - i) (G - (i+1))) (.slice (some ⟨b,off+i * 7,none⟩) (n - i) (c - i)) (by simp [Act.eval,Act.put]) (by simp [Act.eval,Act.put]) (hcpB _ hF1 hF2 3 (G - (i+1)) (c - i)) ?_)
  go_wp2
  go_ret
  exact ⟨G,ROW,hGn,hZ1.out,hZ2.out,rfl,rfl⟩
theorem cK9:aM1 Tryz.prog 68 49 7 where
 A:=cU2
 B:=cU4
 C:=cR9
 D:=cR3
theorem bQ9 {q:Nat} {V V':AV} {κ3:TypeId} {α:Type} {enc:α→List Dat} {xs:List α} {x:α} {i:Int} (h:0≤i∧i≤(xs.length:Int)∧xs.length+1≤4294967296) (hκ3:1099511627776≤κ3)
  (hq:fH (bO [.vw (aD,q),.d (.v (.int .i64 i)),.own κ3 7 [enc x]] [V]) (aD,q)=.own 49 7 (xs.map enc))
  (hV:(aX (fV (bO [.vw (aD,q),.d (.v (.int .i64 i)),.own κ3 7 [enc x]] [V]) (aD,q) .junk) aD).dS (fG aS)=V') :
  aG Tryz.prog 68 [.vw (aD,q),.d (.v (.int .i64 i)),.own κ3 7 [enc x]] [V] (.own 49 7 ((xs.take i.toNat++[x]++xs.drop i.toNat).map enc)) [V']:=by
 obtain ⟨j,rfl⟩:∃ j:Nat,i=j:=⟨i.toNat,by omega⟩
 rw [List.map_append,List.map_append,List.map_take,List.map_drop]
 exact aG.insert (es:=xs.map enc) (v:=enc x) (by decide) ⟨_,Tryz.func68,by kernel_rfl,by kernel_rfl⟩ cK9 (fun _=>rfl) (by simp; omega) (by simp; omega) (by decide) hκ3 hq hV
set_option maxHeartbeats 4000000 in
set_option maxRecDepth 1000000 in
theorem cQ2 (b off n c vb voff vc:Nat) (w:World) (vs:List Value) (hvl:vs.length=1 * 1) (hroom:n+1≤c)
  (hvs:∀ t v,vs[t]? = some v→w.cell? ⟨vb,voff+t,none⟩=some v) (h1v:∀ v∈vs,v.oneCell'=true)
  (hsp:∀ j,j < vs.length→(w.cell? ⟨b,off+n+j,none⟩).isSome=true∧w.frozen? ⟨b,off+n+j,none⟩=false) :
  Calls Tryz.prog 186 #[.slice (some ⟨b,off,none⟩) n c,.int .i64 n,.slice (some ⟨vb,voff,none⟩) 1 vc] w fun e w'=>e=.returned (.slice (some ⟨b,off,none⟩) (n+1) c)∧w'=w.setCells b (off+n) vs:=by
 have mixed:Tryz.prog.follows .mixedOrders=true:=by kernel_rfl
 have tT:Tryz.prog.underlying 44=some (.slice 9):=Tryz.underlying44
 obtain ⟨ie,hie,hsz⟩:∃ i0,Tryz.prog.info? 9=some i0∧i0.size=1:=⟨_,rfl,rfl⟩
 have s1:Hid (vs.length=1 * 1):=hvl
 have s2:Hid (∀ u∈vs,u.oneCell'=true):=h1v
 have s3:Hid (∀ t u,vs[t]? = some u→w.cell? ((⟨vb,voff,none⟩:Addr).add t)=some u):=fun t u h=>by rw [Addr.add_lit]; exact hvs t u h
 have s4:Hid (∀ j,j < vs.length→(w.cell? ⟨b,off+n+j,none⟩).isSome=true∧w.frozen? ⟨b,off+n+j,none⟩=false):=hsp
 obtain ⟨W1,hW1⟩:∃ W1,W1=w.setCells b (off+n) vs:=⟨_,rfl⟩
 have happ:∀ ty,(Builtin.append_ #[44,44] ty #[.slice (some ⟨b,off,none⟩) n c,.slice (some ⟨vb,voff,none⟩) 1 vc]).run Tryz.prog w=.ok (.slice (some ⟨b,off,none⟩) (n+1) c) W1:=fun ty=>by
  have h:=run_append_room_cells (P:=Tryz.prog) w 44 ty 9 ie tT hie b off n c ⟨vb,voff,none⟩ 1 vc vs (by rw [hsz]; exact hvl) s3.out h1v hroom (by rw [hsz]; simp only [Nat.mul_one]; exact fun j hj=>(hsp j hj).1) (by rw [hsz]; simp only [Nat.mul_one]; exact fun j hj=>(hsp j hj).2)
  rw [hsz] at h; simp only [Nat.mul_one] at h
  rw [hW1]
  exact h
 have hW:Hid (W1=w.setCells b (off+n) vs):=hW1
 have hnc:n≤c:=by omega
 clear hW1 hvl h1v hvs hsp
 go_enter Tryz.func186,Tryz.ntmps186
 go_wp2_with (at_builtin; refine Lib.wpList_append_run _ rfl _ _ _ _ rfl _ _ rfl rfl _ _ (happ _) ?_)
 go_wp2
 go_ret
 exact ⟨rfl,hW.out⟩
set_option maxHeartbeats 4000000 in
set_option maxRecDepth 1000000 in
theorem cL9 (base:Option Addr) (n c vb voff vc:Nat) (w:World) (cs vs:List Value) (hvl:vs.length=1 * 1) (hnc:n≤c) (hroom:c < n+1) (hn:n≤4294967296)
  (hold:∀ w':World,w'.heap=w.heap→(Builtin.firstCells 1 n (.slice base n c)).run Tryz.prog w'=.ok cs.toArray w')
  (hvs:∀ t v,vs[t]? = some v→w.cell? ⟨vb,voff+t,none⟩=some v) (h1v:∀ v∈vs,v.oneCell'=true) :
  Calls Tryz.prog 186 #[.slice base n c,.int .i64 n,.slice (some ⟨vb,voff,none⟩) 1 vc] w fun e w'=>∃ (G:Nat) (zz:Array Value),n+1≤G∧zz.size=(G - (n+1)) * 1∧e=.returned (.slice (some ⟨w.heap.size,0,none⟩) (n+1) G)∧w'=w.drew.alloc (.cells ((cs++vs).toArray++zz) 9):=by
 have mixed:Tryz.prog.follows .mixedOrders=true:=by kernel_rfl
 have tT:Tryz.prog.underlying 44=some (.slice 9):=Tryz.underlying44
 obtain ⟨ie,z,hie,hsz,hbz,hzz,hzs⟩:∃ i0 z,Tryz.prog.info? 9=some i0∧i0.size=1∧i0.bytes≤1000∧i0.zero=some z∧z.cells.size=1:=⟨_,_,rfl,rfl,by decide,rfl,rfl⟩
 have hsrc:Src Tryz.prog w 44 ie.size (.slice (some ⟨vb,voff,none⟩) 1 vc) 1 vs:=⟨.inl ⟨_,tT⟩,rfl,fun w' hw'=>run_firstCells_some (P:=Tryz.prog) w' ie.size 1 ⟨vb,voff,none⟩ 1 vc vs (by rw [hsz]; exact hvl) (fun t u h=>by
  rw [Addr.add_lit]
  have:=hvs t u h
  simpa [World.cell?,hw'] using this),by rw [hsz]; exact hvl,h1v⟩
 obtain ⟨G,hG⟩:∃ G,G=grownCap w (n+1) c 9:=⟨_,rfl⟩
 have hGn:n+1≤G:=by rw [hG]; exact grownCap_ge w _ _ _
 have hb:(n+1) * ie.bytes≤140737488355328:=by
  have:(n+1) * ie.bytes≤(n+1) * 1000:=Nat.mul_le_mul_left _ hbz
  omega
 obtain ⟨zz,hz2⟩:∃ zz,zz=Builtin.zeroCells z.cells (G - (n+1)):=⟨_,rfl⟩
 have hzzs:zz.size=(G - (n+1)) * 1:=by rw [hz2]; simp [Builtin.zeroCells,hzs]
 obtain ⟨W1,hW1⟩:∃ W1,W1=w.drew.alloc (.cells ((cs++vs).toArray++zz) 9):=⟨_,rfl⟩
 have happ:∀ ty,(Builtin.append_ #[44,44] ty #[.slice base n c,.slice (some ⟨vb,voff,none⟩) 1 vc]).run Tryz.prog w=.ok (.slice (some ⟨w.heap.size,0,none⟩) (n+1) G) W1:=fun ty=>by
  have h:=run_append_grow' (P:=Tryz.prog) (w:=w) (ty:=ty) 44 44 9 ie z tT hie hzz base n c cs (by rw [hsz]; exact hold) hsrc hroom (by omega) hb
  rw [hW1,hz2,hG,show (cs++vs).toArray=cs.toArray++vs.toArray by simp]
  exact h
 have hW:Hid (W1=w.drew.alloc (.cells ((cs++vs).toArray++zz) 9)):=hW1
 have hZ:Hid (zz.size=(G - (n+1)) * 1):=hzzs
 clear hW1 hvl h1v hvs hold hsrc hz2 hzzs hb hG hie hsz hbz hzz hzs
 go_enter Tryz.func186,Tryz.ntmps186
 go_wp2_with (at_builtin; refine Lib.wpList_append_run _ rfl _ _ _ _ rfl _ _ rfl rfl _ _ (happ _) ?_)
 go_wp2
 go_ret
 exact ⟨G,zz,hGn,hZ.out,rfl,hW.out⟩
set_option maxHeartbeats 4000000 in
set_option maxRecDepth 1000000 in
theorem cJ8 (b off n c i vb voff vc:Nat) (w:World) (cs vs:List Value) (hcl:cs.length=n) (hvl:vs.length=1 * 1) (hi:i < n) (hroom:n+1≤c) (hc63:n≤4294967296) (hvb:vb≠b)
  (hcs:∀ t v,cs[t]? = some v→w.cell? ⟨b,off+t,none⟩=some v) (hsp:∀ j,j < (n+1)→(w.cell? ⟨b,off+j,none⟩).isSome=true) (hfz:∀ j,j < (n+1)→w.frozen? ⟨b,off+j,none⟩=false)
  (hvs:∀ t v,vs[t]? = some v→w.cell? ⟨vb,voff+t,none⟩=some v) (h1c:∀ v∈cs,v.oneCell'=true) (h1v:∀ v∈vs,v.oneCell'=true)
  (tA tB:TypeId) (kA kB:Nat) (hsa:w.shape? vb=some (tA,kA)) (hsb:w.shape? b=some (tB,kB)) (hkB:kB≠0) (hfa:w.frozen? ⟨vb,voff,none⟩=false) (hfe:w.frozen? ⟨vb,kA,none⟩=false) :
  Calls Tryz.prog 186 #[.slice (some ⟨b,off,none⟩) n c,.int .i64 i,.slice (some ⟨vb,voff,none⟩) 1 vc] w fun e w'=>e=.returned (.slice (some ⟨b,off,none⟩) (n+1) c)∧w'=(w.drew.setCells b (off+(i+1)) (cs.drop (i))).setCells b (off+i) vs:=by
 have mixed:Tryz.prog.follows .mixedOrders=true:=by kernel_rfl
 have tT:Tryz.prog.underlying 44=some (.slice 9):=Tryz.underlying44
 have hsz:(Tryz.prog.info? 9).map (·.size)=some 1:=rfl
 have hov:∀ lb cb,(callFunc 205 #[.slice (some ⟨vb,voff,none⟩) 1 vc,.slice (some ⟨b,off+(i+1),none⟩) lb cb]).run Tryz.prog w=.ok (.value (.bool false)) w:=fun lb cb=>by
  rw [run_callFunc_extern Tryz.func205 (by kernel_rfl) (by kernel_rfl) (by kernel_rfl) (e:=Extern.SlicesOverlaps.overlaps #[44,44] #[4]) (by kernel_rfl),
   Lib.run_overlaps_apart w 44 4 9 tT 1 Tryz.sizeOf9 ⟨vb,voff,none⟩ ⟨b,off+(i+1),none⟩ 1 vc lb cb hvb tA tB kA kB hsa hsb hkB hfa hfe]
  rfl
 have hdl:(cs.drop (i)).length=(n - i) * 1:=by rw [List.length_drop,hcl]; omega
 have hw1:IntKind.i64.wrap ((i:Int)+1)=(i:Int)+1:=by rw [IntKind.wrap_i64]; omega
 have hw2:IntKind.i64.wrap ((n:Int)+1)=(n:Int)+1:=by rw [IntKind.wrap_i64]; omega
 have hb1:(0:Int)≤(i:Int)+1:=by omega
 have hin:i≤n:=by omega
 have htn:((i:Int)+1).toNat=i+1:=by omega
 have htn2:((n:Int)+1).toNat=n+1:=by omega
 have hb2:¬ (c=i+1):=by omega
 have hb3:(i:Int)≤(n:Int)+1:=by omega
 have hb4:¬ (c=i):=by omega
 have hz2:¬ ((i:Int)=(n:Int)):=by omega
 have hz3:¬ ((c:Int) < (n:Int)+1):=by omega
 have hcp1:∀ ty dc sc,(Builtin.copy_ #[44,44] ty #[.slice (some ⟨b,off+(i+1),none⟩) (n - i) dc,.slice (some ⟨b,off+i,none⟩) (n+1 - i) sc]).run Tryz.prog w.drew=.ok (goInt (n - i:Nat)) (w.drew.setCells b (off+(i+1)) (cs.drop (i))):=fun ty dc sc =>
  jR w.drew _ _ ty 9 1 b (off+(i+1)) (n - i) dc ⟨b,off+i,none⟩ (n+1 - i) sc (n - i) (by omega) (cs.drop (i)) tT hsz hdl
   (fun j v hj=>by rw [Addr.add_lit,Nat.add_assoc]; exact hcs (i+j) v (by rwa [List.getElem?_drop] at hj))
   (fun j hj=>by rw [Nat.add_assoc]; exact hsp _ (by omega)) (fun j hj=>by rw [Nat.add_assoc]; exact hfz _ (by omega)) (fun v hv=>h1c v (List.mem_of_mem_drop hv))
 obtain ⟨W1,hW1⟩:∃ W1,W1=w.drew.setCells b (off+(i+1)) (cs.drop (i)):=⟨_,rfl⟩
 have hsp1:∀ k,k < (n+1)→(W1.cell? ⟨b,off+k,none⟩).isSome=true:=fun k hk=>by
  rw [hW1]
  exact oI b _ _ _ (fun j hj=>by rw [Nat.add_assoc]; exact hsp _ (by omega)) _ (hsp k hk)
 have hcp2:∀ (W:World),(∀ x,W.cell? x=W1.cell? x)→(∀ x,W.frozen? x=W1.frozen? x)→∀ ty dc,(Builtin.copy_ #[44,44] ty #[.slice (some ⟨b,off+i,none⟩) (n+1 - i) dc,.slice (some ⟨vb,voff,none⟩) 1 vc]).run Tryz.prog W=.ok (goInt (1:Nat)) (W.setCells b (off+i) vs):=fun W hWc hWf ty dc =>
  jR W _ _ ty 9 1 b (off+i) (n+1 - i) dc ⟨vb,voff,none⟩ 1 vc 1 (by omega) vs tT hsz hvl
   (fun j v hj=>by
    rw [Addr.add_lit,hWc,hW1,World.cell?_setCells_out b _ _ _ _ (fun h _=>absurd h hvb)]
    exact hvs j v hj)
   (fun j hj=>by rw [hWc,Nat.add_assoc]; exact hsp1 _ (by omega)) (fun j hj=>by rw [hWf,hW1,World.frozen?_setCells,Nat.add_assoc]; exact hfz _ (by omega)) h1v
 rw [← hW1] at hcp1
 have hW:Hid (W1=w.drew.setCells b (off+(i+1)) (cs.drop (i))):=hW1
 clear hdl hsp1 hcs hsp hfz hvs h1c h1v hsa hsb hkB hfa hfe hcl hvl
 go_enter Tryz.func186,Tryz.ntmps186
 go_wp2_with (simp only [hov])
 go_region_law_o (refine step_copy_runI rfl _ _ 44 44 rfl _ _ (by simp [Act.eval,Act.put]) (by simp [Act.eval,Act.put]) (hcp1 _ _ _) ?_)
 go_wp2_with (at_builtin; refine wpList_copy_runI _ rfl _ _ 44 44 rfl _ _ rfl rfl (hcp2 _ (fun _=>rfl) (fun _=>rfl) _ _) ?_)
 go_ret
 first | exact ⟨rfl,rfl⟩ | exact ⟨rfl,by rw [hW1]⟩ | exact ⟨rfl,by rw [hW.out]⟩
set_option maxHeartbeats 4000000 in
set_option maxRecDepth 1000000 in
theorem cO5 (b off n c i vb voff vc:Nat) (w:World) (cs vs:List Value) (hcl:cs.length=n) (hvl:vs.length=1 * 1) (hi:i < n) (hnc:n≤c) (hroom:c < n+1) (hc63:n≤4294967296) (hbw:b < w.heap.size) (hvw:vb < w.heap.size)
    (hcs:∀ t v,cs[t]? = some v→w.cell? ⟨b,off+t,none⟩=some v)
    (hvs:∀ t v,vs[t]? = some v→w.cell? ⟨vb,voff+t,none⟩=some v) (h1c:∀ v∈cs,v.oneCell'=true) (h1v:∀ v∈vs,v.oneCell'=true) :
    Calls Tryz.prog 186 #[.slice (some ⟨b,off,none⟩) n c,.int .i64 i,.slice (some ⟨vb,voff,none⟩) 1 vc] w fun e w'=>∃ (G:Nat) (ROW:Array Value),n+1≤G∧ROW.size=G∧(∀ t,t < i→ROW[t]? = cs[t]?)∧e=.returned (.slice (some ⟨w.heap.size,0,none⟩) (n+1) G) ∧
      w'=(((w.alloc (.cells ROW 9)).drew.setCells w.heap.size (i) vs).drew).setCells w.heap.size ((i+1)) (cs.drop (i)):=by
  have mixed:Tryz.prog.follows .mixedOrders=true:=by kernel_rfl
  have tT:Tryz.prog.underlying 44=some (.slice 9):=Tryz.underlying44
  have hsz:(Tryz.prog.info? 9).map (·.size)=some 1:=rfl
  obtain ⟨ie,z,hie,hsz5,hbz,hzz,hzs⟩:∃ i0 z,Tryz.prog.info? 9=some i0∧i0.size=1∧i0.bytes≤1000∧i0.zero=some z∧z.cells.size=1:=⟨_,_,rfl,rfl,by decide,rfl,rfl⟩
  have hkk:(n:Int)+1 - (i:Int)=((n+1 - i:Nat):Int):=by omega
  have hik:i+(n+1 - i)=n+1:=by omega
  have htl:(cs.take (i)).length=i:=by rw [List.length_take,hcl]; omega
  have hold:(Builtin.firstCells ie.size i (.slice (some ⟨b,off,none⟩) i c)).run Tryz.prog w.drew=.ok (cs.take (i)).toArray w.drew :=
    run_firstCells_some (P:=Tryz.prog) w.drew ie.size i ⟨b,off,none⟩ i c (cs.take (i)) (by rw [hsz5]; simp only [Nat.mul_one]; exact htl) (fun t u h=>by
      rw [Addr.add_lit]
      rw [List.getElem?_take] at h
      split at h
      · exact hcs t u h
      · cases h)
  have hb:(n+1) * ie.bytes≤140737488355328:=by
    have:(n+1) * ie.bytes≤(n+1) * 1000:=Nat.mul_le_mul_left _ hbz
    omega
  have hb':(n+1 - i) * ie.bytes≤281474976710656:=by
    have:(n+1 - i) * ie.bytes≤(n+1) * ie.bytes:=Nat.mul_le_mul_right _ (by omega)
    omega
  have hrz:∀ ty,(Builtin.append_ #[44,3] ty #[.slice (some ⟨b,off,none⟩) i c,.int .i64 ((n:Int)+1 - (i:Int))]).run Tryz.prog w =
      .ok (.slice (some ⟨w.heap.size,0,none⟩) (n+1) (grownCap w (n+1) c 9)) (w.drew.alloc (.cells ((cs.take (i)).toArray++Builtin.zeroCells z.cells (n+1 - i)++Builtin.zeroCells z.cells (grownCap w (n+1) c 9 - (n+1))) 9)):=fun ty=>by
    have h:=Lib.run_append_grow_zeros w 44 3 ty 9 ie z .i64 .i64 tT Tryz.underlying3 hie hzz (some ⟨b,off,none⟩) i c (cs.take (i)) hold (n+1 - i) (by omega) (by omega) (by omega) (by omega) hb' (by rw [hik]; exact growslice_fits hroom hb)
    rw [hik] at h
    rw [hkk]
    exact h
  obtain ⟨G,hG⟩:∃ G,G=grownCap w (n+1) c 9:=⟨_,rfl⟩
  have hGn:n+1≤G:=by rw [hG]; exact grownCap_ge w _ _ _
  obtain ⟨ROW,hROW⟩:∃ ROW:Array Value,ROW=(cs.take (i)).toArray++Builtin.zeroCells z.cells (n+1 - i)++Builtin.zeroCells z.cells (G - (n+1)):=⟨_,rfl⟩
  rw [← hG] at hrz
  rw [← hROW] at hrz
  have hRs:ROW.size=G:=by
    rw [hROW]
    simp only [Array.size_append,List.size_toArray,htl,Builtin.zeroCells,Array.size_map,Array.size_range,hzs]
    omega
  have hRt:∀ t,t < i→ROW[t]? = cs[t]? := fun t ht=>by
    rw [hROW,Array.append_assoc,Array.getElem?_append_left (by simpa [htl] using ht)]
    simp [List.getElem?_take,ht]
  obtain ⟨W1,hW1⟩:∃ W1,W1=w.drew.alloc (.cells ROW 9):=⟨_,rfl⟩
  rw [← hW1] at hrz
  have hN:∀ j,j < G→(W1.cell? ⟨w.heap.size,j,none⟩).isSome=true:=fun j hj=>by
    rw [hW1,World.cell?_alloc_at (w:=w.drew) ROW _ w.heap.size j rfl,Array.getElem?_eq_getElem (by omega)]; rfl
  have hNf:∀ j,W1.frozen? ⟨w.heap.size,j,none⟩=false:=fun j=>by rw [hW1]; exact World.frozen?_alloc_at (w:=w.drew) ROW _ w.heap.size j rfl
  have hOb:∀ j v,w.cell? ⟨b,j,none⟩=some v→W1.cell? ⟨b,j,none⟩=some v:=fun j v h=>by rw [hW1,World.cell?_alloc_past (w:=w.drew) _ b j hbw]; exact h
  have hOv:∀ j v,w.cell? ⟨vb,j,none⟩=some v→W1.cell? ⟨vb,j,none⟩=some v:=fun j v h=>by rw [hW1,World.cell?_alloc_past (w:=w.drew) _ vb j hvw]; exact h
  have hcpA:∀ (W:World),(∀ x,W.cell? x=W1.cell? x)→(∀ x,W.frozen? x=W1.frozen? x)→∀ ty dc,(Builtin.copy_ #[44,44] ty #[.slice (some ⟨w.heap.size,i,none⟩) (n+1 - i) dc,.slice (some ⟨vb,voff,none⟩) 1 vc]).run Tryz.prog W=.ok (goInt (1:Nat)) (W.setCells w.heap.size (i) vs):=fun W hWc hWf ty dc =>
    jR W _ _ ty 9 1 w.heap.size (i) (n+1 - i) dc ⟨vb,voff,none⟩ 1 vc 1 (by omega) vs tT hsz hvl
      (fun j v hj=>by rw [Addr.add_lit,hWc]; exact hOv _ v (hvs j v hj))
      (fun j hj=>by rw [hWc]; exact hN _ (by omega)) (fun j hj=>by rw [hWf]; exact hNf _) h1v
  have hG63:G≤9223372036854775807:=by
    have:=grownCap_le_maxLen w (n+1) c 9 (by unfold maxLen; omega)
    rw [← hG] at this
    unfold maxLen at this
    omega
  have hGi:¬ (G=i):=by omega
  have hGim:¬ (G=i+1):=by omega
  have hci:¬ (c=i):=by omega
  have hbN:b≠w.heap.size:=by omega
  have hdl:(cs.drop (i)).length=(n - i) * 1:=by rw [List.length_drop,hcl]; omega
  have hcpB:∀ (W:World),(∀ x,W.cell? x=(W1.setCells w.heap.size (i) vs).cell? x)→(∀ x,W.frozen? x=(W1.setCells w.heap.size (i) vs).frozen? x)→∀ ty dc sc,(Builtin.copy_ #[44,44] ty #[.slice (some ⟨w.heap.size,(i+1),none⟩) (n - i) dc,.slice (some ⟨b,off+i,none⟩) (n - i) sc]).run Tryz.prog W=.ok (goInt (n - i:Nat)) (W.setCells w.heap.size ((i+1)) (cs.drop (i))):=fun W hWc hWf ty dc sc =>
    jR W _ _ ty 9 1 w.heap.size ((i+1)) (n - i) dc ⟨b,off+i,none⟩ (n - i) sc (n - i) (by omega) (cs.drop (i)) tT hsz hdl
      (fun j v hj=>by
        rw [Addr.add_lit,hWc,World.cell?_setCells_out _ _ _ _ _ (fun h _=>absurd h hbN),Nat.add_assoc]
        exact hOb _ v (hcs (i+j) v (by rwa [List.getElem?_drop] at hj)))
      (fun j hj=>by rw [hWc]; exact oI _ _ _ _ (fun t ht=>hN _ (by omega)) _ (hN _ (by omega)))
      (fun j hj=>by rw [hWf,World.frozen?_setCells]; exact hNf _) (fun v hv=>h1c v (List.mem_of_mem_drop hv))
  subst hW1
  have hE1:∀ x,((w.alloc (.cells ROW 9)).drew).cell? x=(w.drew.alloc (.cells ROW 9)).cell? x:=fun x=>rfl
  have hE2:∀ x,((w.alloc (.cells ROW 9)).drew).frozen? x=(w.drew.alloc (.cells ROW 9)).frozen? x:=fun x=>rfl
  have hF1:∀ x,(((w.alloc (.cells ROW 9)).drew.setCells w.heap.size (i) vs).drew).cell? x=((w.drew.alloc (.cells ROW 9)).setCells w.heap.size (i) vs).cell? x:=fun x=>rfl
  have hF2:∀ x,(((w.alloc (.cells ROW 9)).drew.setCells w.heap.size (i) vs).drew).frozen? x=((w.drew.alloc (.cells ROW 9)).setCells w.heap.size (i) vs).frozen? x:=fun x=>rfl
  have hw1:IntKind.i64.wrap ((i:Int)+1)=(i:Int)+1:=by rw [IntKind.wrap_i64]; omega
  have hw2:IntKind.i64.wrap ((n:Int)+1)=(n:Int)+1:=by rw [IntKind.wrap_i64]; omega
  have hw3:IntKind.i64.wrap ((n:Int)+1 - (i:Int))=(n:Int)+1 - (i:Int):=by rw [IntKind.wrap_i64]; omega
  have hb1:(0:Int)≤(i:Int)+1:=by omega
  have hin:i≤n:=by omega
  have htn:((i:Int)+1).toNat=i+1:=by omega
  have hb3:(i:Int)≤(n:Int):=by omega
  have hz2:¬ ((i:Int)=(n:Int)):=by omega
  have hz3:(c:Int) < (n:Int)+1:=by omega
  have hZ1:Hid (ROW.size=G):=hRs
  have hZ2:Hid (∀ t,t < i→ROW[t]? = cs[t]?):=hRt
  clear hkk hik hold hROW hG hRs hRt hie hsz5 hbz hzz hzs hb hb' htl hN hNf hOb hOv hcs hvs h1c h1v hcl hvl hdl
  go_enter Tryz.func186,Tryz.ntmps186
  go_wp2_with (first
    | (at_builtin; refine Lib.wpList_append_run _ rfl _ _ _ _ rfl _ _ rfl rfl _ _ (hrz _) ?_)
    | (at_builtin; refine wpList_copy_runI _ rfl _ _ 44 44 rfl _ _ rfl rfl (hcpA _ hE1 hE2 _ _) ?_)
    | (at_builtin; refine wpList_copy_runI _ rfl _ _ 44 44 rfl _ _ rfl rfl (hcpB _ (fun _=>rfl) (fun _=>rfl) _ _ _) ?_))
  go_region_law_o (refine step_copy_runI rfl _ _ 44 44 rfl (.slice (some ⟨w.heap.size,(i+1),none⟩) (n - i) (G - (i+1))) (.slice (some ⟨b,off+i,none⟩) (n - i) (c - i)) (by simp [Act.eval,Act.put]) (by simp [Act.eval,Act.put]) (hcpB _ hF1 hF2 3 (G - (i+1)) (c - i)) ?_)
  go_wp2
  go_ret
  exact ⟨G,ROW,hGn,hZ1.out,hZ2.out,rfl,rfl⟩
theorem cD9:aM1 Tryz.prog 186 9 1 where
 A:=fun b off n c vb voff vc w vs h1 h2 h3 h4 h5=>by simpa only [Nat.mul_one] using cQ2 b off n c vb voff vc w vs h1 h2 h3 h4 (by simpa only [Nat.mul_one] using h5)
 B:=fun base n c vb voff vc w cs vs h1 h2 h3 h4 h5 h6 h7=>cL9 base n c vb voff vc w cs vs h1 h2 h3 h4 h5 h6 h7
 C:=fun b off n c i vb voff vc w cs vs h1 h2 h3 h4 h5 h6 h7 h8 h9 h10 h11 h12=>by simpa only [Nat.mul_one] using cO5 b off n c i vb voff vc w cs vs (by simpa only [Nat.mul_one] using h1) h2 h3 h4 h5 h6 h7 h8 h9 h10 h11 h12
 D:=fun b off n c i vb voff vc w cs vs h1 h2 h3 h4 h5 h6 h7 h8 h9 h10 h11 h12 tA tB kA kB g1 g2 g3 g4 g5=>by simpa only [Nat.mul_one] using cJ8 b off n c i vb voff vc w cs vs (by simpa only [Nat.mul_one] using h1) h2 h3 h4 h5 h6 h7 (by simpa only [Nat.mul_one] using h8) (by simpa only [Nat.mul_one] using h9) h10 h11 h12 tA tB kA kB g1 g2 g3 g4 g5
theorem bJ7 {q:Nat} {V V':AV} {κ3:TypeId} {α:Type} {enc:α→List Dat} {xs:List α} {x:α} {i:Int} (h:0≤i∧i≤(xs.length:Int)∧xs.length+1≤4294967296) (hκ3:1099511627776≤κ3)
  (hq:fH (bO [.vw (aD,q),.d (.v (.int .i64 i)),.own κ3 1 [enc x]] [V]) (aD,q)=.own 9 1 (xs.map enc))
  (hV:(aX (fV (bO [.vw (aD,q),.d (.v (.int .i64 i)),.own κ3 1 [enc x]] [V]) (aD,q) .junk) aD).dS (fG aS)=V') :
  aG Tryz.prog 186 [.vw (aD,q),.d (.v (.int .i64 i)),.own κ3 1 [enc x]] [V] (.own 9 1 ((xs.take i.toNat++[x]++xs.drop i.toNat).map enc)) [V']:=by
 obtain ⟨j,rfl⟩:∃ j:Nat,i=j:=⟨i.toNat,by omega⟩
 rw [List.map_append,List.map_append,List.map_take,List.map_drop]
 exact aG.insert (es:=xs.map enc) (v:=enc x) (by decide) ⟨_,Tryz.func186,by kernel_rfl,by kernel_rfl⟩ cD9 (fun _=>rfl) (by simp; omega) (by simp; omega) (by decide) hκ3 hq hV
set_option maxHeartbeats 4000000 in
set_option maxRecDepth 1000000 in
theorem cK1 (b off n c vb voff vc:Nat) (w:World) (vs:List Value) (hvl:vs.length=1 * 5) (hroom:n+1≤c)
  (hvs:∀ t v,vs[t]? = some v→w.cell? ⟨vb,voff+t,none⟩=some v) (h1v:∀ v∈vs,v.oneCell'=true)
  (hsp:∀ j,j < vs.length→(w.cell? ⟨b,off+n * 5+j,none⟩).isSome=true∧w.frozen? ⟨b,off+n * 5+j,none⟩=false) :
  Calls Tryz.prog 187 #[.slice (some ⟨b,off,none⟩) n c,.int .i64 n,.slice (some ⟨vb,voff,none⟩) 1 vc] w fun e w'=>e=.returned (.slice (some ⟨b,off,none⟩) (n+1) c)∧w'=w.setCells b (off+n * 5) vs:=by
 have mixed:Tryz.prog.follows .mixedOrders=true:=by kernel_rfl
 have tT:Tryz.prog.underlying 45=some (.slice 47):=Tryz.underlying45
 obtain ⟨ie,hie,hsz⟩:∃ i0,Tryz.prog.info? 47=some i0∧i0.size=5:=⟨_,rfl,rfl⟩
 have s1:Hid (vs.length=1 * 5):=hvl
 have s2:Hid (∀ u∈vs,u.oneCell'=true):=h1v
 have s3:Hid (∀ t u,vs[t]? = some u→w.cell? ((⟨vb,voff,none⟩:Addr).add t)=some u):=fun t u h=>by rw [Addr.add_lit]; exact hvs t u h
 have s4:Hid (∀ j,j < vs.length→(w.cell? ⟨b,off+n * 5+j,none⟩).isSome=true∧w.frozen? ⟨b,off+n * 5+j,none⟩=false):=hsp
 obtain ⟨W1,hW1⟩:∃ W1,W1=w.setCells b (off+n * 5) vs:=⟨_,rfl⟩
 have happ:∀ ty,(Builtin.append_ #[45,45] ty #[.slice (some ⟨b,off,none⟩) n c,.slice (some ⟨vb,voff,none⟩) 1 vc]).run Tryz.prog w=.ok (.slice (some ⟨b,off,none⟩) (n+1) c) W1:=fun ty=>by
  have h:=run_append_room_cells (P:=Tryz.prog) w 45 ty 47 ie tT hie b off n c ⟨vb,voff,none⟩ 1 vc vs (by rw [hsz]; exact hvl) s3.out h1v hroom (by rw [hsz]; exact fun j hj=>(hsp j hj).1) (by rw [hsz]; exact fun j hj=>(hsp j hj).2)
  rw [hsz] at h
  rw [hW1]
  exact h
 have hW:Hid (W1=w.setCells b (off+n * 5) vs):=hW1
 have hnc:n≤c:=by omega
 clear hW1 hvl h1v hvs hsp
 go_enter Tryz.func187,Tryz.ntmps187
 go_wp2_with (at_builtin; refine Lib.wpList_append_run _ rfl _ _ _ _ rfl _ _ rfl rfl _ _ (happ _) ?_)
 go_wp2
 go_ret
 exact ⟨rfl,hW.out⟩
set_option maxHeartbeats 4000000 in
set_option maxRecDepth 1000000 in
theorem cP4 (base:Option Addr) (n c vb voff vc:Nat) (w:World) (cs vs:List Value) (hvl:vs.length=1 * 5) (hnc:n≤c) (hroom:c < n+1) (hn:n≤4294967296)
  (hold:∀ w':World,w'.heap=w.heap→(Builtin.firstCells 5 n (.slice base n c)).run Tryz.prog w'=.ok cs.toArray w')
  (hvs:∀ t v,vs[t]? = some v→w.cell? ⟨vb,voff+t,none⟩=some v) (h1v:∀ v∈vs,v.oneCell'=true) :
  Calls Tryz.prog 187 #[.slice base n c,.int .i64 n,.slice (some ⟨vb,voff,none⟩) 1 vc] w fun e w'=>∃ (G:Nat) (zz:Array Value),n+1≤G∧zz.size=(G - (n+1)) * 5∧e=.returned (.slice (some ⟨w.heap.size,0,none⟩) (n+1) G)∧w'=w.drew.alloc (.cells ((cs++vs).toArray++zz) 47):=by
 have mixed:Tryz.prog.follows .mixedOrders=true:=by kernel_rfl
 have tT:Tryz.prog.underlying 45=some (.slice 47):=Tryz.underlying45
 obtain ⟨ie,z,hie,hsz,hbz,hzz,hzs⟩:∃ i0 z,Tryz.prog.info? 47=some i0∧i0.size=5∧i0.bytes≤1000∧i0.zero=some z∧z.cells.size=5:=⟨_,_,rfl,rfl,by decide,rfl,rfl⟩
 have hsrc:Src Tryz.prog w 45 ie.size (.slice (some ⟨vb,voff,none⟩) 1 vc) 1 vs:=⟨.inl ⟨_,tT⟩,rfl,fun w' hw'=>run_firstCells_some (P:=Tryz.prog) w' ie.size 1 ⟨vb,voff,none⟩ 1 vc vs (by rw [hsz]; exact hvl) (fun t u h=>by
  rw [Addr.add_lit]
  have:=hvs t u h
  simpa [World.cell?,hw'] using this),by rw [hsz]; exact hvl,h1v⟩
 obtain ⟨G,hG⟩:∃ G,G=grownCap w (n+1) c 47:=⟨_,rfl⟩
 have hGn:n+1≤G:=by rw [hG]; exact grownCap_ge w _ _ _
 have hb:(n+1) * ie.bytes≤140737488355328:=by
  have:(n+1) * ie.bytes≤(n+1) * 1000:=Nat.mul_le_mul_left _ hbz
  omega
 obtain ⟨zz,hz2⟩:∃ zz,zz=Builtin.zeroCells z.cells (G - (n+1)):=⟨_,rfl⟩
 have hzzs:zz.size=(G - (n+1)) * 5:=by rw [hz2]; simp [Builtin.zeroCells,hzs]
 obtain ⟨W1,hW1⟩:∃ W1,W1=w.drew.alloc (.cells ((cs++vs).toArray++zz) 47):=⟨_,rfl⟩
 have happ:∀ ty,(Builtin.append_ #[45,45] ty #[.slice base n c,.slice (some ⟨vb,voff,none⟩) 1 vc]).run Tryz.prog w=.ok (.slice (some ⟨w.heap.size,0,none⟩) (n+1) G) W1:=fun ty=>by
  have h:=run_append_grow' (P:=Tryz.prog) (w:=w) (ty:=ty) 45 45 47 ie z tT hie hzz base n c cs (by rw [hsz]; exact hold) hsrc hroom (by omega) hb
  rw [hW1,hz2,hG,show (cs++vs).toArray=cs.toArray++vs.toArray by simp]
  exact h
 have hW:Hid (W1=w.drew.alloc (.cells ((cs++vs).toArray++zz) 47)):=hW1
 have hZ:Hid (zz.size=(G - (n+1)) * 5):=hzzs
 clear hW1 hvl h1v hvs hold hsrc hz2 hzzs hb hG hie hsz hbz hzz hzs
 go_enter Tryz.func187,Tryz.ntmps187
 go_wp2_with (at_builtin; refine Lib.wpList_append_run _ rfl _ _ _ _ rfl _ _ rfl rfl _ _ (happ _) ?_)
 go_wp2
 go_ret
 exact ⟨G,zz,hGn,hZ.out,rfl,hW.out⟩
set_option maxHeartbeats 4000000 in
set_option maxRecDepth 1000000 in
theorem cQ3 (b off n c i vb voff vc:Nat) (w:World) (cs vs:List Value) (hcl:cs.length=n * 5) (hvl:vs.length=1 * 5) (hi:i < n) (hroom:n+1≤c) (hc63:n≤4294967296) (hvb:vb≠b)
  (hcs:∀ t v,cs[t]? = some v→w.cell? ⟨b,off+t,none⟩=some v) (hsp:∀ j,j < (n+1) * 5→(w.cell? ⟨b,off+j,none⟩).isSome=true) (hfz:∀ j,j < (n+1) * 5→w.frozen? ⟨b,off+j,none⟩=false)
  (hvs:∀ t v,vs[t]? = some v→w.cell? ⟨vb,voff+t,none⟩=some v) (h1c:∀ v∈cs,v.oneCell'=true) (h1v:∀ v∈vs,v.oneCell'=true)
  (tA tB:TypeId) (kA kB:Nat) (hsa:w.shape? vb=some (tA,kA)) (hsb:w.shape? b=some (tB,kB)) (hkB:kB≠0) (hfa:w.frozen? ⟨vb,voff,none⟩=false) (hfe:w.frozen? ⟨vb,kA,none⟩=false) :
  Calls Tryz.prog 187 #[.slice (some ⟨b,off,none⟩) n c,.int .i64 i,.slice (some ⟨vb,voff,none⟩) 1 vc] w fun e w'=>e=.returned (.slice (some ⟨b,off,none⟩) (n+1) c)∧w'=(w.drew.setCells b (off+(i+1) * 5) (cs.drop (i * 5))).setCells b (off+i * 5) vs:=by
 have mixed:Tryz.prog.follows .mixedOrders=true:=by kernel_rfl
 have tT:Tryz.prog.underlying 45=some (.slice 47):=Tryz.underlying45
 have hsz:(Tryz.prog.info? 47).map (·.size)=some 5:=rfl
 have hov:∀ lb cb,(callFunc 207 #[.slice (some ⟨vb,voff,none⟩) 1 vc,.slice (some ⟨b,off+(i+1) * 5,none⟩) lb cb]).run Tryz.prog w=.ok (.value (.bool false)) w:=fun lb cb=>by
  rw [run_callFunc_extern Tryz.func207 (by kernel_rfl) (by kernel_rfl) (by kernel_rfl) (e:=Extern.SlicesOverlaps.overlaps #[45,45] #[4]) (by kernel_rfl),
   Lib.run_overlaps_apart w 45 4 47 tT 5 Tryz.sizeOf47 ⟨vb,voff,none⟩ ⟨b,off+(i+1) * 5,none⟩ 1 vc lb cb hvb tA tB kA kB hsa hsb hkB hfa hfe]
  rfl
 have hdl:(cs.drop (i * 5)).length=(n - i) * 5:=by rw [List.length_drop,hcl]; omega
 have hw1:IntKind.i64.wrap ((i:Int)+1)=(i:Int)+1:=by rw [IntKind.wrap_i64]; omega
 have hw2:IntKind.i64.wrap ((n:Int)+1)=(n:Int)+1:=by rw [IntKind.wrap_i64]; omega
 have hb1:(0:Int)≤(i:Int)+1:=by omega
 have hin:i≤n:=by omega
 have htn:((i:Int)+1).toNat=i+1:=by omega
 have htn2:((n:Int)+1).toNat=n+1:=by omega
 have hb2:¬ (c=i+1):=by omega
 have hb3:(i:Int)≤(n:Int)+1:=by omega
 have hb4:¬ (c=i):=by omega
 have hz2:¬ ((i:Int)=(n:Int)):=by omega
 have hz3:¬ ((c:Int) < (n:Int)+1):=by omega
 have hcp1:∀ ty dc sc,(Builtin.copy_ #[45,45] ty #[.slice (some ⟨b,off+(i+1) * 5,none⟩) (n - i) dc,.slice (some ⟨b,off+i * 5,none⟩) (n+1 - i) sc]).run Tryz.prog w.drew=.ok (goInt (n - i:Nat)) (w.drew.setCells b (off+(i+1) * 5) (cs.drop (i * 5))):=fun ty dc sc =>
  jR w.drew _ _ ty 47 5 b (off+(i+1) * 5) (n - i) dc ⟨b,off+i * 5,none⟩ (n+1 - i) sc (n - i) (by omega) (cs.drop (i * 5)) tT hsz hdl
   (fun j v hj=>by rw [Addr.add_lit,Nat.add_assoc]; exact hcs (i * 5+j) v (by rwa [List.getElem?_drop] at hj))
   (fun j hj=>by rw [Nat.add_assoc]; exact hsp _ (by omega)) (fun j hj=>by rw [Nat.add_assoc]; exact hfz _ (by omega)) (fun v hv=>h1c v (List.mem_of_mem_drop hv))
 obtain ⟨W1,hW1⟩:∃ W1,W1=w.drew.setCells b (off+(i+1) * 5) (cs.drop (i * 5)):=⟨_,rfl⟩
 have hsp1:∀ k,k < (n+1) * 5→(W1.cell? ⟨b,off+k,none⟩).isSome=true:=fun k hk=>by
  rw [hW1]
  exact oI b _ _ _ (fun j hj=>by rw [Nat.add_assoc]; exact hsp _ (by omega)) _ (hsp k hk)
 have hcp2:∀ (W:World),(∀ x,W.cell? x=W1.cell? x)→(∀ x,W.frozen? x=W1.frozen? x)→∀ ty dc,(Builtin.copy_ #[45,45] ty #[.slice (some ⟨b,off+i * 5,none⟩) (n+1 - i) dc,.slice (some ⟨vb,voff,none⟩) 1 vc]).run Tryz.prog W=.ok (goInt (1:Nat)) (W.setCells b (off+i * 5) vs):=fun W hWc hWf ty dc =>
  jR W _ _ ty 47 5 b (off+i * 5) (n+1 - i) dc ⟨vb,voff,none⟩ 1 vc 1 (by omega) vs tT hsz hvl
   (fun j v hj=>by
    rw [Addr.add_lit,hWc,hW1,World.cell?_setCells_out b _ _ _ _ (fun h _=>absurd h hvb)]
    exact hvs j v hj)
   (fun j hj=>by rw [hWc,Nat.add_assoc]; exact hsp1 _ (by omega)) (fun j hj=>by rw [hWf,hW1,World.frozen?_setCells,Nat.add_assoc]; exact hfz _ (by omega)) h1v
 rw [← hW1] at hcp1
 have hW:Hid (W1=w.drew.setCells b (off+(i+1) * 5) (cs.drop (i * 5))):=hW1
 clear hdl hsp1 hcs hsp hfz hvs h1c h1v hsa hsb hkB hfa hfe hcl hvl
 go_enter Tryz.func187,Tryz.ntmps187
 go_wp2_with (simp only [hov])
 go_region_law_o (refine step_copy_runI rfl _ _ 45 45 rfl _ _ (by simp [Act.eval,Act.put]) (by simp [Act.eval,Act.put]) (hcp1 _ _ _) ?_)
 go_wp2_with (at_builtin; refine wpList_copy_runI _ rfl _ _ 45 45 rfl _ _ rfl rfl (hcp2 _ (fun _=>rfl) (fun _=>rfl) _ _) ?_)
 go_ret
 first | exact ⟨rfl,rfl⟩ | exact ⟨rfl,by rw [hW1]⟩ | exact ⟨rfl,by rw [hW.out]⟩
set_option maxHeartbeats 4000000 in
set_option maxRecDepth 1000000 in
theorem cM2 (b off n c i vb voff vc:Nat) (w:World) (cs vs:List Value) (hcl:cs.length=n * 5) (hvl:vs.length=1 * 5) (hi:i < n) (hnc:n≤c) (hroom:c < n+1) (hc63:n≤4294967296) (hbw:b < w.heap.size) (hvw:vb < w.heap.size)
    (hcs:∀ t v,cs[t]? = some v→w.cell? ⟨b,off+t,none⟩=some v)
    (hvs:∀ t v,vs[t]? = some v→w.cell? ⟨vb,voff+t,none⟩=some v) (h1c:∀ v∈cs,v.oneCell'=true) (h1v:∀ v∈vs,v.oneCell'=true) :
    Calls Tryz.prog 187 #[.slice (some ⟨b,off,none⟩) n c,.int .i64 i,.slice (some ⟨vb,voff,none⟩) 1 vc] w fun e w'=>∃ (G:Nat) (ROW:Array Value),n+1≤G∧ROW.size=G * 5∧(∀ t,t < i * 5→ROW[t]? = cs[t]?)∧e=.returned (.slice (some ⟨w.heap.size,0,none⟩) (n+1) G) ∧
      w'=(((w.alloc (.cells ROW 47)).drew.setCells w.heap.size (i * 5) vs).drew).setCells w.heap.size ((i+1) * 5) (cs.drop (i * 5)):=by
  have mixed:Tryz.prog.follows .mixedOrders=true:=by kernel_rfl
  have tT:Tryz.prog.underlying 45=some (.slice 47):=Tryz.underlying45
  have hsz:(Tryz.prog.info? 47).map (·.size)=some 5:=rfl
  obtain ⟨ie,z,hie,hsz5,hbz,hzz,hzs⟩:∃ i0 z,Tryz.prog.info? 47=some i0∧i0.size=5∧i0.bytes≤1000∧i0.zero=some z∧z.cells.size=5:=⟨_,_,rfl,rfl,by decide,rfl,rfl⟩
  have hkk:(n:Int)+1 - (i:Int)=((n+1 - i:Nat):Int):=by omega
  have hik:i+(n+1 - i)=n+1:=by omega
  have htl:(cs.take (i * 5)).length=i * 5:=by rw [List.length_take,hcl]; omega
  have hold:(Builtin.firstCells ie.size i (.slice (some ⟨b,off,none⟩) i c)).run Tryz.prog w.drew=.ok (cs.take (i * 5)).toArray w.drew :=
    run_firstCells_some (P:=Tryz.prog) w.drew ie.size i ⟨b,off,none⟩ i c (cs.take (i * 5)) (by rw [hsz5]; exact htl) (fun t u h=>by
      rw [Addr.add_lit]
      rw [List.getElem?_take] at h
      split at h
      · exact hcs t u h
      · cases h)
  have hb:(n+1) * ie.bytes≤140737488355328:=by
    have:(n+1) * ie.bytes≤(n+1) * 1000:=Nat.mul_le_mul_left _ hbz
    omega
  have hb':(n+1 - i) * ie.bytes≤281474976710656:=by
    have:(n+1 - i) * ie.bytes≤(n+1) * ie.bytes:=Nat.mul_le_mul_right _ (by omega)
    omega
  have hrz:∀ ty,(Builtin.append_ #[45,3] ty #[.slice (some ⟨b,off,none⟩) i c,.int .i64 ((n:Int)+1 - (i:Int))]).run Tryz.prog w =
      .ok (.slice (some ⟨w.heap.size,0,none⟩) (n+1) (grownCap w (n+1) c 47)) (w.drew.alloc (.cells ((cs.take (i * 5)).toArray++Builtin.zeroCells z.cells (n+1 - i)++Builtin.zeroCells z.cells (grownCap w (n+1) c 47 - (n+1))) 47)):=fun ty=>by
    have h:=Lib.run_append_grow_zeros w 45 3 ty 47 ie z .i64 .i64 tT Tryz.underlying3 hie hzz (some ⟨b,off,none⟩) i c (cs.take (i * 5)) hold (n+1 - i) (by omega) (by omega) (by omega) (by omega) hb' (by rw [hik]; exact growslice_fits hroom hb)
    rw [hik] at h
    rw [hkk]
    exact h
  obtain ⟨G,hG⟩:∃ G,G=grownCap w (n+1) c 47:=⟨_,rfl⟩
  have hGn:n+1≤G:=by rw [hG]; exact grownCap_ge w _ _ _
  obtain ⟨ROW,hROW⟩:∃ ROW:Array Value,ROW=(cs.take (i * 5)).toArray++Builtin.zeroCells z.cells (n+1 - i)++Builtin.zeroCells z.cells (G - (n+1)):=⟨_,rfl⟩
  rw [← hG] at hrz
  rw [← hROW] at hrz
  have hRs:ROW.size=G * 5:=by
    rw [hROW]
    simp only [Array.size_append,List.size_toArray,htl,Builtin.zeroCells,Array.size_map,Array.size_range,hzs]
    omega
  have hRt:∀ t,t < i * 5→ROW[t]? = cs[t]? := fun t ht=>by
    rw [hROW,Array.append_assoc,Array.getElem?_append_left (by simpa [htl] using ht)]
    simp [List.getElem?_take,ht]
  obtain ⟨W1,hW1⟩:∃ W1,W1=w.drew.alloc (.cells ROW 47):=⟨_,rfl⟩
  rw [← hW1] at hrz
  have hN:∀ j,j < G * 5→(W1.cell? ⟨w.heap.size,j,none⟩).isSome=true:=fun j hj=>by
    rw [hW1,World.cell?_alloc_at (w:=w.drew) ROW _ w.heap.size j rfl,Array.getElem?_eq_getElem (by omega)]; rfl
  have hNf:∀ j,W1.frozen? ⟨w.heap.size,j,none⟩=false:=fun j=>by rw [hW1]; exact World.frozen?_alloc_at (w:=w.drew) ROW _ w.heap.size j rfl
  have hOb:∀ j v,w.cell? ⟨b,j,none⟩=some v→W1.cell? ⟨b,j,none⟩=some v:=fun j v h=>by rw [hW1,World.cell?_alloc_past (w:=w.drew) _ b j hbw]; exact h
  have hOv:∀ j v,w.cell? ⟨vb,j,none⟩=some v→W1.cell? ⟨vb,j,none⟩=some v:=fun j v h=>by rw [hW1,World.cell?_alloc_past (w:=w.drew) _ vb j hvw]; exact h
  have hcpA:∀ (W:World),(∀ x,W.cell? x=W1.cell? x)→(∀ x,W.frozen? x=W1.frozen? x)→∀ ty dc,(Builtin.copy_ #[45,45] ty #[.slice (some ⟨w.heap.size,i * 5,none⟩) (n+1 - i) dc,.slice (some ⟨vb,voff,none⟩) 1 vc]).run Tryz.prog W=.ok (goInt (1:Nat)) (W.setCells w.heap.size (i * 5) vs):=fun W hWc hWf ty dc =>
    jR W _ _ ty 47 5 w.heap.size (i * 5) (n+1 - i) dc ⟨vb,voff,none⟩ 1 vc 1 (by omega) vs tT hsz hvl
      (fun j v hj=>by rw [Addr.add_lit,hWc]; exact hOv _ v (hvs j v hj))
      (fun j hj=>by rw [hWc]; exact hN _ (by omega)) (fun j hj=>by rw [hWf]; exact hNf _) h1v
  have hG63:G≤9223372036854775807:=by
    have:=grownCap_le_maxLen w (n+1) c 47 (by unfold maxLen; omega)
    rw [← hG] at this
    unfold maxLen at this
    omega
  have hGi:¬ (G=i):=by omega
  have hGim:¬ (G=i+1):=by omega
  have hci:¬ (c=i):=by omega
  have hbN:b≠w.heap.size:=by omega
  have hdl:(cs.drop (i * 5)).length=(n - i) * 5:=by rw [List.length_drop,hcl]; omega
  have hcpB:∀ (W:World),(∀ x,W.cell? x=(W1.setCells w.heap.size (i * 5) vs).cell? x)→(∀ x,W.frozen? x=(W1.setCells w.heap.size (i * 5) vs).frozen? x)→∀ ty dc sc,(Builtin.copy_ #[45,45] ty #[.slice (some ⟨w.heap.size,(i+1) * 5,none⟩) (n - i) dc,.slice (some ⟨b,off+i * 5,none⟩) (n - i) sc]).run Tryz.prog W=.ok (goInt (n - i:Nat)) (W.setCells w.heap.size ((i+1) * 5) (cs.drop (i * 5))):=fun W hWc hWf ty dc sc =>
    jR W _ _ ty 47 5 w.heap.size ((i+1) * 5) (n - i) dc ⟨b,off+i * 5,none⟩ (n - i) sc (n - i) (by omega) (cs.drop (i * 5)) tT hsz hdl
      (fun j v hj=>by
        rw [Addr.add_lit,hWc,World.cell?_setCells_out _ _ _ _ _ (fun h _=>absurd h hbN),Nat.add_assoc]
        exact hOb _ v (hcs (i * 5+j) v (by rwa [List.getElem?_drop] at hj)))
      (fun j hj=>by rw [hWc]; exact oI _ _ _ _ (fun t ht=>hN _ (by omega)) _ (hN _ (by omega)))
      (fun j hj=>by rw [hWf,World.frozen?_setCells]; exact hNf _) (fun v hv=>h1c v (List.mem_of_mem_drop hv))
  subst hW1
  have hE1:∀ x,((w.alloc (.cells ROW 47)).drew).cell? x=(w.drew.alloc (.cells ROW 47)).cell? x:=fun x=>rfl
  have hE2:∀ x,((w.alloc (.cells ROW 47)).drew).frozen? x=(w.drew.alloc (.cells ROW 47)).frozen? x:=fun x=>rfl
  have hF1:∀ x,(((w.alloc (.cells ROW 47)).drew.setCells w.heap.size (i * 5) vs).drew).cell? x=((w.drew.alloc (.cells ROW 47)).setCells w.heap.size (i * 5) vs).cell? x:=fun x=>rfl
  have hF2:∀ x,(((w.alloc (.cells ROW 47)).drew.setCells w.heap.size (i * 5) vs).drew).frozen? x=((w.drew.alloc (.cells ROW 47)).setCells w.heap.size (i * 5) vs).frozen? x:=fun x=>rfl
  have hw1:IntKind.i64.wrap ((i:Int)+1)=(i:Int)+1:=by rw [IntKind.wrap_i64]; omega
  have hw2:IntKind.i64.wrap ((n:Int)+1)=(n:Int)+1:=by rw [IntKind.wrap_i64]; omega
  have hw3:IntKind.i64.wrap ((n:Int)+1 - (i:Int))=(n:Int)+1 - (i:Int):=by rw [IntKind.wrap_i64]; omega
  have hb1:(0:Int)≤(i:Int)+1:=by omega
  have hin:i≤n:=by omega
  have htn:((i:Int)+1).toNat=i+1:=by omega
  have hb3:(i:Int)≤(n:Int):=by omega
  have hz2:¬ ((i:Int)=(n:Int)):=by omega
  have hz3:(c:Int) < (n:Int)+1:=by omega
  have hZ1:Hid (ROW.size=G * 5):=hRs
  have hZ2:Hid (∀ t,t < i * 5→ROW[t]? = cs[t]?):=hRt
  clear hkk hik hold hROW hG hRs hRt hie hsz5 hbz hzz hzs hb hb' htl hN hNf hOb hOv hcs hvs h1c h1v hcl hvl hdl
  go_enter Tryz.func187,Tryz.ntmps187
  go_wp2_with (first
    | (at_builtin; refine Lib.wpList_append_run _ rfl _ _ _ _ rfl _ _ rfl rfl _ _ (hrz _) ?_)
    | (at_builtin; refine wpList_copy_runI _ rfl _ _ 45 45 rfl _ _ rfl rfl (hcpA _ hE1 hE2 _ _) ?_)
    | (at_builtin; refine wpList_copy_runI _ rfl _ _ 45 45 rfl _ _ rfl rfl (hcpB _ (fun _=>rfl) (fun _=>rfl) _ _ _) ?_))
  go_region_law_o (refine step_copy_runI rfl _ _ 45 45 rfl (.slice (some ⟨w.heap.size,(i+1) * 5,none⟩) (n - i) (G - (i+1))) (.slice (some ⟨b,off+i * 5,none⟩) (n - i) (c - i)) (by simp [Act.eval,Act.put]) (by simp [Act.eval,Act.put]) (hcpB _ hF1 hF2 3 (G - (i+1)) (c - i)) ?_)
  go_wp2
  go_ret
  exact ⟨G,ROW,hGn,hZ1.out,hZ2.out,rfl,rfl⟩
theorem cF1:aM1 Tryz.prog 187 47 5 where
 A:=cK1
 B:=cP4
 C:=cM2
 D:=cQ3
theorem bL5 {q:Nat} {V V':AV} {κ3:TypeId} {α:Type} {enc:α→List Dat} {xs:List α} {x:α} {i:Int} (h:0≤i∧i≤(xs.length:Int)∧xs.length+1≤4294967296) (hκ3:1099511627776≤κ3)
  (hq:fH (bO [.vw (aD,q),.d (.v (.int .i64 i)),.own κ3 5 [enc x]] [V]) (aD,q)=.own 47 5 (xs.map enc))
  (hV:(aX (fV (bO [.vw (aD,q),.d (.v (.int .i64 i)),.own κ3 5 [enc x]] [V]) (aD,q) .junk) aD).dS (fG aS)=V') :
  aG Tryz.prog 187 [.vw (aD,q),.d (.v (.int .i64 i)),.own κ3 5 [enc x]] [V] (.own 47 5 ((xs.take i.toNat++[x]++xs.drop i.toNat).map enc)) [V']:=by
 obtain ⟨j,rfl⟩:∃ j:Nat,i=j:=⟨i.toNat,by omega⟩
 rw [List.map_append,List.map_append,List.map_take,List.map_drop]
 exact aG.insert (es:=xs.map enc) (v:=enc x) (by decide) ⟨_,Tryz.func187,by kernel_rfl,by kernel_rfl⟩ cF1 (fun _=>rfl) (by simp; omega) (by simp; omega) (by decide) hκ3 hq hV
theorem cE7 {q:Nat} {V V':AV} {κ:TypeId} {l:List Int} (hb:l.length≤4294967296) (hq:fH (bO [.vw (aD,q)] [V]) (aD,q)=.own κ 1 (l.map (cI .i64)))
  (hV:aX (fV (bO [.vw (aD,q)] [V]) (aD,q) (.own κ 1 ((nI l).map (cI .i64)))) aD=V'):aG Tryz.prog 34 [.vw (aD,q)] [V] (.tup []) [V'] :=
 aG.sortInt ⟨_,Tryz.func34,by kernel_rfl,by kernel_rfl⟩ (bE8 l) hq hV (fun blk off cap w hH hb'=>Tryz.slices_Sort_int blk off cap l w hH hb' (by omega)) (fun p cap w=>Tryz.slices_Sort_int_none p cap w)
theorem bJ4 {q:Nat} {V V':AV} {κ:TypeId} {l:List Int} (hb:l.length≤4294967296) (hκl:κ < 2199023255552) (hq:fH (bO [.vw (aD,q)] [V]) (aD,q)=.own κ 1 (l.map (cI .i64)))
  (hV:(aX (fV (bO [.vw (aD,q)] [V]) (aD,q) .junk) aD).dS (fG aS)=V'):aG Tryz.prog 35 [.vw (aD,q)] [V] (.own κ 1 ((Lib.compact l).map (cI .i64))) [V'] :=
 aG.bZ3 ⟨_,Tryz.func35,by kernel_rfl,by kernel_rfl⟩ hb hκl hq hV (fun blk off cap zs w h1 h2 h3=>Tryz.slices_Compact_int blk off cap zs w h1 h2 h3) (fun p cap w=>Tryz.slices_Compact_int_empty p cap w) (bT5 l) (fun h=>by rw [h]; rfl)
end Go.Vm.PgfG
