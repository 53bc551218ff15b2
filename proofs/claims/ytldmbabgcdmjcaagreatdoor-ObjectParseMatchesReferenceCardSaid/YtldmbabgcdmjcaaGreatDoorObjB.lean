import Derived.Test.YtldmbabgcdmjcaaGreatDoorProg
import Derived.Test.YtldmbabgcdmjcaaGreatDoorVmC
import Derived.WalkKit
import Derived.Shelf.RegionOpenPlain
import Derived.Laws.Externs
import Derived.Test.YtldmbabgcdmjcaaGreatDoorObjS
import Derived.Test.YtldmbabgcdmjcaaGreatDoorVmD
import Derived.Lib.AppendIntMem
import Derived.Lib.AtoiErrMem
import Derived.Deep.RegionLaw
import Derived.Deep.RegionLawGrows
import Derived.Lib.Walk
import Derived.Lib.SliceRun
import Derived.Shelf.Spec.SlicesInsert
import Derived.Shelf.Spec.SlicesInsertGrow
import Derived.Test.YtldmbabgcdmjcaaGreatDoorObjF
namespace Go.Vm.ObjM
open Go.Proofs Go.RowKit
set_option maxHeartbeats 1000000 in
set_option maxRecDepth 100000 in
theorem cT9 (b off:Nat) (w:World) (h0:w.cell? ⟨b,off,none⟩=some (.pointer (some ⟨b,off,none⟩))) :
  Calls Tryz.prog 75 #[.pointer (some ⟨b,off,none⟩)] w fun e w'=>e=.returned (.tuple #[])∧w'=w:=by
 have hp:Tryz.prog.underlying 85=some (.pointer 87):=Tryz.underlying85
 obtain ⟨j,hj,_⟩:∃ j,Tryz.prog.info? 87=some j∧j.size≠0:=⟨_,rfl,by decide⟩
 go_enter Tryz.func75,Tryz.ntmps75
 go_wp2
 rw [Lib.run_neq_ptr_same w _ hp hj]
 go_wp2
 go_end0
 exact ⟨rfl,rfl⟩
set_option maxHeartbeats 1000000 in
set_option maxRecDepth 100000 in
theorem cJ3 (b off E n:Nat) (w:World) (h0:w.cell? ⟨b,off,none⟩=some (.pointer none)) (hsh:w.shape? b=some (E,n)) (hoff:off < n) (hlies:liesAt Tryz.prog Tryz.prog.depth E (n / Tryz.prog.cellsOf E) off 87 1=true) (hfz:w.frozen? ⟨b,off,none⟩=false) :
  Calls Tryz.prog 75 #[.pointer (some ⟨b,off,none⟩)] w fun e w'=>e=.returned (.tuple #[])∧w'=w.setCell ⟨b,off,none⟩ (.pointer (some ⟨b,off,none⟩)):=by
 have hp:Tryz.prog.underlying 85=some (.pointer 87):=Tryz.underlying85
 have hu:Tryz.prog.underlying 131=some .unsafePointer:=Tryz.underlying131
 obtain ⟨j,hj,hjs⟩:∃ j,Tryz.prog.info? 87=some j∧j.size≠0:=⟨_,rfl,by decide⟩
 go_enter Tryz.func75,Tryz.ntmps75
 go_wp2
 rw [Lib.run_to_unsafe w ⟨b,off,none⟩ hp hu hj hjs hsh hoff]
 simp only [Result.andThen]
 rw [Oper.upon_value]
 go_wp2
 rw [run_callFunc_extern Tryz.func101 (by kernel_rfl) (by kernel_rfl) (by kernel_rfl) (e:=Extern.AbiNoEscape.same) (by kernel_rfl)]
 rw [Lib.run_noEscape]
 simp only [Result.andThen]
 rw [Oper.upon_value]
 go_wp2
 rw [Lib.run_from_unsafe w ⟨b,off,none⟩ hu hp hj hsh hlies]
 simp only [Result.andThen]
 rw [Oper.upon_value]
 go_wp2
 go_end0
 exact ⟨rfl,rfl⟩
theorem aI9 {off E:Nat} {cs:List AV} (hc:cs[off]? = some (.slf off E)) (hlies:liesAt Tryz.prog Tryz.prog.depth E (cs.length / Tryz.prog.cellsOf E) off 87 1=true) (hb:(AV.box cs).mA=true):aS Tryz.prog 75 [.bp aF off] [.box cs] (.tup []) [.box cs] :=
 aS.copyCheck (tb:=87) ⟨_,Tryz.func75,by kernel_rfl,by kernel_rfl⟩ cT9 cJ3 hc hlies hb
set_option maxHeartbeats 1000000 in
set_option maxRecDepth 100000 in
theorem cR6 (b off n c:Nat) (q p:Option Addr) (s:ByteArray) (w w1 w2:World) (c1:w.drew.cell? ⟨b,off+1,none⟩=some (.slice q n c)) (c2:w1.cell? ⟨b,off+1,none⟩=some (.slice q n c))
  (hSD:(Builtin.unsafeSliceData_ #[69] 108 #[.slice q n c]).run Tryz.prog w.drew=.ok (.pointer p) w1) (hUS:(Builtin.unsafeString_ #[108,3] 9 #[.pointer p,.int .i64 n]).run Tryz.prog w1=.ok (.string s) w2) :
  Calls Tryz.prog 53 #[.pointer (some ⟨b,off,none⟩)] w fun e w'=>e=.returned (.string s)∧w'=w2:=by
 have mixed:Tryz.prog.follows .mixedOrders=true:=by kernel_rfl
 go_enter Tryz.func53,Tryz.ntmps53
 go_wp2
 go_region
 all_goals (go_wp2; go_ret; exact ⟨rfl,rfl⟩)
theorem vS {off:Nat} {cs:List AV} {l:List UInt8} (hl63:l.length≤9223372036854775807) (hc:cs[off+1]? = some (.own 5 1 (l.map cU))) (hb:(AV.box (cs.set (off+1) .junk)).mA=true):aS Tryz.prog 53 [.bp aF off] [.box cs] (.d (.str l)) [.box (cs.set (off+1) .junk)] :=
 aS.cV0 ⟨_,Tryz.func53,by kernel_rfl,by kernel_rfl⟩ Tryz.underlying108 (by kernel_rfl) (by decide) cR6 hl63 hc hb
theorem xM {l:List UInt8} {c:Int}:aS Tryz.prog 95 [.d (.str l),.d (.v (.int .u8 c))] [] (.d (.v (.int .i64 (Lib.indexByte l c.toNat.toUInt8)))) [] :=
 aS.bD1 ⟨_,Tryz.func95,by kernel_rfl,by kernel_rfl⟩ (us:=[strOf l,.int .u8 c]) (u:=.int .i64 (Lib.indexByte l c.toNat.toUInt8)) rfl rfl rfl fun w=>(Tryz.strings_IndexByte ⟨l.toArray⟩ c w).mono (by rintro e w' ⟨rfl,rfl⟩; exact ⟨rfl,Below.refl _ _⟩)
theorem cK8 {n:Int} (h : -9223372036854775808≤n∧n≤9223372036854775807):aS Tryz.prog 70 [.d (.v (.int .i64 n))] [.glo 1 (aC.flatMap (cI .u64))] (.d (.str (Lib.itoa n))) [.glo 1 (aC.flatMap (cI .u64))] :=
 aS.cM3 ⟨_,Tryz.func70,by kernel_rfl,by kernel_rfl⟩ (us:=[.int .i64 n]) (u:=strOf (Lib.itoa n)) rfl rfl rfl fun w S hg=>(Tryz.strconv_Itoa n h.1 h.2 w (TabIs.cY9 (by kernel_rfl) hg)).mono (by rintro e w' ⟨rfl,k,os,rfl⟩; exact ⟨rfl,Lib.below_grow _ _ (Nat.le_refl _) _ _⟩)
theorem cF7 {l:List UInt8} {v:Int} (h:l.length≤9223372036854775806) (hv:yA l=some v):aS Tryz.prog 123 [.d (.str l)] [] (.tup [.d (.v (.int .i64 v)),.d (.v .nilIface)]) [] :=
 aS.bD1 ⟨_,Tryz.func123,by kernel_rfl,by kernel_rfl⟩ (us:=[strOf l]) (u:=.tuple #[.int .i64 v,.nilIface]) rfl rfl rfl fun w=>by
  have h0:Lib.atoiAll l=.ok v:=by
   unfold yA at hv
   split at hv
   ·rename_i h0; cases hv; exact h0
   ·cases hv
  refine (Tryz.strconv_Atoi_ok ⟨l.toArray⟩ (by simpa [ByteArray.size] using h) v h0 w).mono ?_
  rintro e w' ⟨rfl,rfl | ⟨t,rfl⟩⟩
  ·exact ⟨rfl,Below.refl _ _⟩
  ·exact ⟨rfl,Lib.bytesWorld_below _ _ _⟩
theorem xP {l : List UInt8} {q : Int → Option Bool} {r : Bool} (g : Nat) (hg1 : (Tryz.prog.funcs[g]?).map (fun f => f.body.isNone) = some false) (hg2 : (Tryz.prog.funcs[g]?).map (fun f => f.name == "runtime.NumGoroutine") = some false)
  (hq:∀ (x:Int) (b:Bool),q x=some b→aS Tryz.prog g [.d (.v (.int .i32 x))] [] (.d (.v (.bool b))) []) (h:qU q l=some r):aS Tryz.prog 121 [.d (.str l),.clo g []] [] (.d (.v (.bool r))) [] :=
 aS.bD1 ⟨_,Tryz.func121,by kernel_rfl,by kernel_rfl⟩ (us:=[strOf l,.func (.func g) #[] #[]]) (u:=.bool r) rfl rfl rfl fun w=>by
  obtain ⟨h1,h2⟩:=aC4 h
  refine (Tryz.strings_ContainsFunc_grows g #[] (cG1 hg1 hg2) (fun x=>(q x).getD false) ⟨l.toArray⟩ w ?_).mono ?_
  ·intro W x hx _
   obtain ⟨b,hb⟩:=Option.isSome_iff_exists.1 (h1 x hx)
   have:=(hq x b hb).below (us:=[.int .i32 x]) (u:=.bool b) rfl (show 1 < aH by decide) rfl W
   have hb':(q ↑x).getD false=b:=by rw [hb]; rfl
   subst hb'
   exact this
  ·rintro e w' ⟨rfl,hb⟩
   rw [h2]
   exact ⟨rfl,hb⟩
set_option maxHeartbeats 4000000 in
set_option maxRecDepth 1000000 in
theorem cT4 (b off n c vb voff vc:Nat) (w:World) (vs:List Value) (hvl:vs.length=1 * 1) (hroom:n+1≤c)
  (hvs:∀ t v,vs[t]? = some v→w.cell? ⟨vb,voff+t,none⟩=some v) (h1v:∀ v∈vs,v.oneCell'=true)
  (hsp:∀ j,j < vs.length→(w.cell? ⟨b,off+n+j,none⟩).isSome=true∧w.frozen? ⟨b,off+n+j,none⟩=false) :
  Calls Tryz.prog 62 #[.slice (some ⟨b,off,none⟩) n c,.int .i64 n,.slice (some ⟨vb,voff,none⟩) 1 vc] w fun e w'=>e=.returned (.slice (some ⟨b,off,none⟩) (n+1) c)∧w'=w.setCells b (off+n) vs:=by
 have mixed:Tryz.prog.follows .mixedOrders=true:=by kernel_rfl
 have tT:Tryz.prog.underlying 23=some (.slice 9):=Tryz.underlying23
 obtain ⟨ie,hie,hsz⟩:∃ i0,Tryz.prog.info? 9=some i0∧i0.size=1:=⟨_,rfl,rfl⟩
 have s1:Hid (vs.length=1 * 1):=hvl
 have s2:Hid (∀ u∈vs,u.oneCell'=true):=h1v
 have s3:Hid (∀ t u,vs[t]? = some u→w.cell? ((⟨vb,voff,none⟩:Addr).add t)=some u):=fun t u h=>by rw [Addr.add_lit]; exact hvs t u h
 have s4:Hid (∀ j,j < vs.length→(w.cell? ⟨b,off+n+j,none⟩).isSome=true∧w.frozen? ⟨b,off+n+j,none⟩=false):=hsp
 obtain ⟨W1,hW1⟩:∃ W1,W1=w.setCells b (off+n) vs:=⟨_,rfl⟩
 have happ:∀ ty,(Builtin.append_ #[23,23] ty #[.slice (some ⟨b,off,none⟩) n c,.slice (some ⟨vb,voff,none⟩) 1 vc]).run Tryz.prog w=.ok (.slice (some ⟨b,off,none⟩) (n+1) c) W1:=fun ty=>by
  have h:=run_append_room_cells (P:=Tryz.prog) w 23 ty 9 ie tT hie b off n c ⟨vb,voff,none⟩ 1 vc vs (by rw [hsz]; exact hvl) s3.out h1v hroom (by rw [hsz]; simp only [Nat.mul_one]; exact fun j hj=>(hsp j hj).1) (by rw [hsz]; simp only [Nat.mul_one]; exact fun j hj=>(hsp j hj).2)
  rw [hsz] at h; simp only [Nat.mul_one] at h
  rw [hW1]
  exact h
 have hW:Hid (W1=w.setCells b (off+n) vs):=hW1
 have hnc:n≤c:=by omega
 clear hW1 hvl h1v hvs hsp
 go_enter Tryz.func62,Tryz.ntmps62
 go_wp2_with (at_builtin; refine Lib.wpList_append_run _ rfl _ _ _ _ rfl _ _ rfl rfl _ _ (happ _) ?_)
 go_wp2
 go_ret
 exact ⟨rfl,hW.out⟩
set_option maxHeartbeats 4000000 in
set_option maxRecDepth 1000000 in
theorem cQ8 (base:Option Addr) (n c vb voff vc:Nat) (w:World) (cs vs:List Value) (hvl:vs.length=1 * 1) (hnc:n≤c) (hroom:c < n+1) (hn:n≤4294967296)
  (hold:∀ w':World,w'.heap=w.heap→(Builtin.firstCells 1 n (.slice base n c)).run Tryz.prog w'=.ok cs.toArray w')
  (hvs:∀ t v,vs[t]? = some v→w.cell? ⟨vb,voff+t,none⟩=some v) (h1v:∀ v∈vs,v.oneCell'=true) :
  Calls Tryz.prog 62 #[.slice base n c,.int .i64 n,.slice (some ⟨vb,voff,none⟩) 1 vc] w fun e w'=>∃ (G:Nat) (zz:Array Value),n+1≤G∧zz.size=(G - (n+1)) * 1∧e=.returned (.slice (some ⟨w.heap.size,0,none⟩) (n+1) G)∧w'=w.drew.alloc (.cells ((cs++vs).toArray++zz) 9):=by
 have mixed:Tryz.prog.follows .mixedOrders=true:=by kernel_rfl
 have tT:Tryz.prog.underlying 23=some (.slice 9):=Tryz.underlying23
 obtain ⟨ie,z,hie,hsz,hbz,hzz,hzs⟩:∃ i0 z,Tryz.prog.info? 9=some i0∧i0.size=1∧i0.bytes≤1000∧i0.zero=some z∧z.cells.size=1:=⟨_,_,rfl,rfl,by decide,rfl,rfl⟩
 have hsrc:Src Tryz.prog w 23 ie.size (.slice (some ⟨vb,voff,none⟩) 1 vc) 1 vs:=⟨.inl ⟨_,tT⟩,rfl,fun w' hw'=>run_firstCells_some (P:=Tryz.prog) w' ie.size 1 ⟨vb,voff,none⟩ 1 vc vs (by rw [hsz]; exact hvl) (fun t u h=>by
  rw [Addr.add_lit]
  have:=hvs t u h
  simpa [World.cell?,hw'] using this),by rw [hsz]; exact hvl,h1v⟩
 obtain ⟨G,hG⟩:∃ G,G=grownCap w (n+1) c 9:=⟨_,rfl⟩
 have hGn:n+1≤G:=by rw [hG]; exact grownCap_ge w _ _ _
 have hb:(n+1) * ie.bytes≤140737488355328:=by
  have:(n+1) * ie.bytes≤(n+1) * 1000:=Nat.mul_le_mul_left _ hbz
  omega
 obtain ⟨zz,hz2⟩:∃ zz,zz=Builtin.zeroCells z.cells (G - (n+1)):=⟨_,rfl⟩
 have hzzs:zz.size=(G - (n+1)) * 1:=by rw [hz2]; simp [Builtin.zeroCells,hzs]
 obtain ⟨W1,hW1⟩:∃ W1,W1=w.drew.alloc (.cells ((cs++vs).toArray++zz) 9):=⟨_,rfl⟩
 have happ:∀ ty,(Builtin.append_ #[23,23] ty #[.slice base n c,.slice (some ⟨vb,voff,none⟩) 1 vc]).run Tryz.prog w=.ok (.slice (some ⟨w.heap.size,0,none⟩) (n+1) G) W1:=fun ty=>by
  have h:=run_append_grow' (P:=Tryz.prog) (w:=w) (ty:=ty) 23 23 9 ie z tT hie hzz base n c cs (by rw [hsz]; exact hold) hsrc hroom (by omega) hb
  rw [hW1,hz2,hG,show (cs++vs).toArray=cs.toArray++vs.toArray by simp]
  exact h
 have hW:Hid (W1=w.drew.alloc (.cells ((cs++vs).toArray++zz) 9)):=hW1
 have hZ:Hid (zz.size=(G - (n+1)) * 1):=hzzs
 clear hW1 hvl h1v hvs hold hsrc hz2 hzzs hb hG hie hsz hbz hzz hzs
 go_enter Tryz.func62,Tryz.ntmps62
 go_wp2_with (at_builtin; refine Lib.wpList_append_run _ rfl _ _ _ _ rfl _ _ rfl rfl _ _ (happ _) ?_)
 go_wp2
 go_ret
 exact ⟨G,zz,hGn,hZ.out,rfl,hW.out⟩
set_option maxHeartbeats 4000000 in
set_option maxRecDepth 1000000 in
theorem cT3 (b off n c i vb voff vc:Nat) (w:World) (cs vs:List Value) (hcl:cs.length=n) (hvl:vs.length=1 * 1) (hi:i < n) (hroom:n+1≤c) (hc63:n≤4294967296) (hvb:vb≠b)
  (hcs:∀ t v,cs[t]? = some v→w.cell? ⟨b,off+t,none⟩=some v) (hsp:∀ j,j < (n+1)→(w.cell? ⟨b,off+j,none⟩).isSome=true) (hfz:∀ j,j < (n+1)→w.frozen? ⟨b,off+j,none⟩=false)
  (hvs:∀ t v,vs[t]? = some v→w.cell? ⟨vb,voff+t,none⟩=some v) (h1c:∀ v∈cs,v.oneCell'=true) (h1v:∀ v∈vs,v.oneCell'=true)
  (tA tB:TypeId) (kA kB:Nat) (hsa:w.shape? vb=some (tA,kA)) (hsb:w.shape? b=some (tB,kB)) (hkB:kB≠0) (hfa:w.frozen? ⟨vb,voff,none⟩=false) (hfe:w.frozen? ⟨vb,kA,none⟩=false) :
  Calls Tryz.prog 62 #[.slice (some ⟨b,off,none⟩) n c,.int .i64 i,.slice (some ⟨vb,voff,none⟩) 1 vc] w fun e w'=>e=.returned (.slice (some ⟨b,off,none⟩) (n+1) c)∧w'=(w.drew.setCells b (off+(i+1)) (cs.drop (i))).setCells b (off+i) vs:=by
 have mixed:Tryz.prog.follows .mixedOrders=true:=by kernel_rfl
 have tT:Tryz.prog.underlying 23=some (.slice 9):=Tryz.underlying23
 have hsz:(Tryz.prog.info? 9).map (·.size)=some 1:=rfl
 have hov:∀ lb cb,(callFunc 91 #[.slice (some ⟨vb,voff,none⟩) 1 vc,.slice (some ⟨b,off+(i+1),none⟩) lb cb]).run Tryz.prog w=.ok (.value (.bool false)) w:=fun lb cb=>by
  rw [run_callFunc_extern Tryz.func91 (by kernel_rfl) (by kernel_rfl) (by kernel_rfl) (e:=Extern.SlicesOverlaps.overlaps #[23,23] #[4]) (by kernel_rfl),
   Lib.run_overlaps_apart w 23 4 9 tT 1 Tryz.sizeOf9 ⟨vb,voff,none⟩ ⟨b,off+(i+1),none⟩ 1 vc lb cb hvb tA tB kA kB hsa hsb hkB hfa hfe]
  rfl
 have hdl:(cs.drop (i)).length=(n - i) * 1:=by rw [List.length_drop,hcl]; omega
 have hw1:IntKind.i64.wrap ((i:Int)+1)=(i:Int)+1:=by rw [IntKind.wrap_i64]; omega
 have hw2:IntKind.i64.wrap ((n:Int)+1)=(n:Int)+1:=by rw [IntKind.wrap_i64]; omega
 have hb1:(0:Int)≤(i:Int)+1:=by omega
 have hin:i≤n:=by omega
 have htn:((i:Int)+1).toNat=i+1:=by omega
 have htn2:((n:Int)+1).toNat=n+1:=by omega
 have hb2:¬ (c=i+1):=by omega
 have hb3:(i:Int)≤(n:Int)+1:=by omega
 have hb4:¬ (c=i):=by omega
 have hz2:¬ ((i:Int)=(n:Int)):=by omega
 have hz3:¬ ((c:Int) < (n:Int)+1):=by omega
 have hcp1:∀ ty dc sc,(Builtin.copy_ #[23,23] ty #[.slice (some ⟨b,off+(i+1),none⟩) (n - i) dc,.slice (some ⟨b,off+i,none⟩) (n+1 - i) sc]).run Tryz.prog w.drew=.ok (goInt (n - i:Nat)) (w.drew.setCells b (off+(i+1)) (cs.drop (i))):=fun ty dc sc =>
  mH w.drew _ _ ty 9 1 b (off+(i+1)) (n - i) dc ⟨b,off+i,none⟩ (n+1 - i) sc (n - i) (by omega) (cs.drop (i)) tT hsz hdl
   (fun j v hj=>by rw [Addr.add_lit,Nat.add_assoc]; exact hcs (i+j) v (by rwa [List.getElem?_drop] at hj))
   (fun j hj=>by rw [Nat.add_assoc]; exact hsp _ (by omega)) (fun j hj=>by rw [Nat.add_assoc]; exact hfz _ (by omega)) (fun v hv=>h1c v (List.mem_of_mem_drop hv))
 obtain ⟨W1,hW1⟩:∃ W1,W1=w.drew.setCells b (off+(i+1)) (cs.drop (i)):=⟨_,rfl⟩
 have hsp1:∀ k,k < (n+1)→(W1.cell? ⟨b,off+k,none⟩).isSome=true:=fun k hk=>by
  rw [hW1]
  exact sJ b _ _ _ (fun j hj=>by rw [Nat.add_assoc]; exact hsp _ (by omega)) _ (hsp k hk)
 have hcp2:∀ (W:World),(∀ x,W.cell? x=W1.cell? x)→(∀ x,W.frozen? x=W1.frozen? x)→∀ ty dc,(Builtin.copy_ #[23,23] ty #[.slice (some ⟨b,off+i,none⟩) (n+1 - i) dc,.slice (some ⟨vb,voff,none⟩) 1 vc]).run Tryz.prog W=.ok (goInt (1:Nat)) (W.setCells b (off+i) vs):=fun W hWc hWf ty dc =>
  mH W _ _ ty 9 1 b (off+i) (n+1 - i) dc ⟨vb,voff,none⟩ 1 vc 1 (by omega) vs tT hsz hvl
   (fun j v hj=>by
    rw [Addr.add_lit,hWc,hW1,World.cell?_setCells_out b _ _ _ _ (fun h _=>absurd h hvb)]
    exact hvs j v hj)
   (fun j hj=>by rw [hWc,Nat.add_assoc]; exact hsp1 _ (by omega)) (fun j hj=>by rw [hWf,hW1,World.frozen?_setCells,Nat.add_assoc]; exact hfz _ (by omega)) h1v
 rw [← hW1] at hcp1
 have hW:Hid (W1=w.drew.setCells b (off+(i+1)) (cs.drop (i))):=hW1
 clear hdl hsp1 hcs hsp hfz hvs h1c h1v hsa hsb hkB hfa hfe hcl hvl
 go_enter Tryz.func62,Tryz.ntmps62
 go_wp2_with (simp only [hov])
 go_region_law_o (refine step_copy_runI rfl _ _ 23 23 rfl _ _ (by simp [Act.eval,Act.put]) (by simp [Act.eval,Act.put]) (hcp1 _ _ _) ?_)
 go_wp2_with (at_builtin; refine wpList_copy_runI _ rfl _ _ 23 23 rfl _ _ rfl rfl (hcp2 _ (fun _=>rfl) (fun _=>rfl) _ _) ?_)
 go_ret
 first | exact ⟨rfl,rfl⟩ | exact ⟨rfl,by rw [hW1]⟩ | exact ⟨rfl,by rw [hW.out]⟩
set_option maxHeartbeats 4000000 in
set_option maxRecDepth 1000000 in
theorem cU5 (b off n c i vb voff vc:Nat) (w:World) (cs vs:List Value) (hcl:cs.length=n) (hvl:vs.length=1 * 1) (hi:i < n) (hnc:n≤c) (hroom:c < n+1) (hc63:n≤4294967296) (hbw:b < w.heap.size) (hvw:vb < w.heap.size)
    (hcs:∀ t v,cs[t]? = some v→w.cell? ⟨b,off+t,none⟩=some v)
    (hvs:∀ t v,vs[t]? = some v→w.cell? ⟨vb,voff+t,none⟩=some v) (h1c:∀ v∈cs,v.oneCell'=true) (h1v:∀ v∈vs,v.oneCell'=true) :
    Calls Tryz.prog 62 #[.slice (some ⟨b,off,none⟩) n c,.int .i64 i,.slice (some ⟨vb,voff,none⟩) 1 vc] w fun e w'=>∃ (G:Nat) (ROW:Array Value),n+1≤G∧ROW.size=G∧(∀ t,t < i→ROW[t]? = cs[t]?)∧e=.returned (.slice (some ⟨w.heap.size,0,none⟩) (n+1) G) ∧
      w'=(((w.alloc (.cells ROW 9)).drew.setCells w.heap.size (i) vs).drew).setCells w.heap.size ((i+1)) (cs.drop (i)):=by
  have mixed:Tryz.prog.follows .mixedOrders=true:=by kernel_rfl
  have tT:Tryz.prog.underlying 23=some (.slice 9):=Tryz.underlying23
  have hsz:(Tryz.prog.info? 9).map (·.size)=some 1:=rfl
  obtain ⟨ie,z,hie,hsz5,hbz,hzz,hzs⟩:∃ i0 z,Tryz.prog.info? 9=some i0∧i0.size=1∧i0.bytes≤1000∧i0.zero=some z∧z.cells.size=1:=⟨_,_,rfl,rfl,by decide,rfl,rfl⟩
  have hkk:(n:Int)+1 - (i:Int)=((n+1 - i:Nat):Int):=by omega
  have hik:i+(n+1 - i)=n+1:=by omega
  have htl:(cs.take (i)).length=i:=by rw [List.length_take,hcl]; omega
  have hold:(Builtin.firstCells ie.size i (.slice (some ⟨b,off,none⟩) i c)).run Tryz.prog w.drew=.ok (cs.take (i)).toArray w.drew :=
    run_firstCells_some (P:=Tryz.prog) w.drew ie.size i ⟨b,off,none⟩ i c (cs.take (i)) (by rw [hsz5]; simp only [Nat.mul_one]; exact htl) (fun t u h=>by
      rw [Addr.add_lit]
      rw [List.getElem?_take] at h
      split at h
      · exact hcs t u h
      · cases h)
  have hb:(n+1) * ie.bytes≤140737488355328:=by
    have:(n+1) * ie.bytes≤(n+1) * 1000:=Nat.mul_le_mul_left _ hbz
    omega
  have hb':(n+1 - i) * ie.bytes≤281474976710656:=by
    have:(n+1 - i) * ie.bytes≤(n+1) * ie.bytes:=Nat.mul_le_mul_right _ (by omega)
    omega
  have hrz:∀ ty,(Builtin.append_ #[23,3] ty #[.slice (some ⟨b,off,none⟩) i c,.int .i64 ((n:Int)+1 - (i:Int))]).run Tryz.prog w =
      .ok (.slice (some ⟨w.heap.size,0,none⟩) (n+1) (grownCap w (n+1) c 9)) (w.drew.alloc (.cells ((cs.take (i)).toArray++Builtin.zeroCells z.cells (n+1 - i)++Builtin.zeroCells z.cells (grownCap w (n+1) c 9 - (n+1))) 9)):=fun ty=>by
    have h:=Lib.run_append_grow_zeros w 23 3 ty 9 ie z .i64 .i64 tT Tryz.underlying3 hie hzz (some ⟨b,off,none⟩) i c (cs.take (i)) hold (n+1 - i) (by omega) (by omega) (by omega) (by omega) hb' (by rw [hik]; exact growslice_fits hroom hb)
    rw [hik] at h
    rw [hkk]
    exact h
  obtain ⟨G,hG⟩:∃ G,G=grownCap w (n+1) c 9:=⟨_,rfl⟩
  have hGn:n+1≤G:=by rw [hG]; exact grownCap_ge w _ _ _
  obtain ⟨ROW,hROW⟩:∃ ROW:Array Value,ROW=(cs.take (i)).toArray++Builtin.zeroCells z.cells (n+1 - i)++Builtin.zeroCells z.cells (G - (n+1)):=⟨_,rfl⟩
  rw [← hG] at hrz
  rw [← hROW] at hrz
  have hRs:ROW.size=G:=by
    rw [hROW]
    simp only [Array.size_append,List.size_toArray,htl,Builtin.zeroCells,Array.size_map,Array.size_range,hzs]
    omega
  have hRt:∀ t,t < i→ROW[t]? = cs[t]? := fun t ht=>by
    rw [hROW,Array.append_assoc,Array.getElem?_append_left (by simpa [htl] using ht)]
    simp [List.getElem?_take,ht]
  obtain ⟨W1,hW1⟩:∃ W1,W1=w.drew.alloc (.cells ROW 9):=⟨_,rfl⟩
  rw [← hW1] at hrz
  have hN:∀ j,j < G→(W1.cell? ⟨w.heap.size,j,none⟩).isSome=true:=fun j hj=>by
    rw [hW1,World.cell?_alloc_at (w:=w.drew) ROW _ w.heap.size j rfl,Array.getElem?_eq_getElem (by omega)]; rfl
  have hNf:∀ j,W1.frozen? ⟨w.heap.size,j,none⟩=false:=fun j=>by rw [hW1]; exact World.frozen?_alloc_at (w:=w.drew) ROW _ w.heap.size j rfl
  have hOb:∀ j v,w.cell? ⟨b,j,none⟩=some v→W1.cell? ⟨b,j,none⟩=some v:=fun j v h=>by rw [hW1,World.cell?_alloc_past (w:=w.drew) _ b j hbw]; exact h
  have hOv:∀ j v,w.cell? ⟨vb,j,none⟩=some v→W1.cell? ⟨vb,j,none⟩=some v:=fun j v h=>by rw [hW1,World.cell?_alloc_past (w:=w.drew) _ vb j hvw]; exact h
  have hcpA:∀ (W:World),(∀ x,W.cell? x=W1.cell? x)→(∀ x,W.frozen? x=W1.frozen? x)→∀ ty dc,(Builtin.copy_ #[23,23] ty #[.slice (some ⟨w.heap.size,i,none⟩) (n+1 - i) dc,.slice (some ⟨vb,voff,none⟩) 1 vc]).run Tryz.prog W=.ok (goInt (1:Nat)) (W.setCells w.heap.size (i) vs):=fun W hWc hWf ty dc =>
    mH W _ _ ty 9 1 w.heap.size (i) (n+1 - i) dc ⟨vb,voff,none⟩ 1 vc 1 (by omega) vs tT hsz hvl
      (fun j v hj=>by rw [Addr.add_lit,hWc]; exact hOv _ v (hvs j v hj))
      (fun j hj=>by rw [hWc]; exact hN _ (by omega)) (fun j hj=>by rw [hWf]; exact hNf _) h1v
  have hG63:G≤9223372036854775807:=by
    have:=grownCap_le_maxLen w (n+1) c 9 (by unfold maxLen; omega)
    rw [← hG] at this
    unfold maxLen at this
    omega
  have hGi:¬ (G=i):=by omega
  have hGim:¬ (G=i+1):=by omega
  have hci:¬ (c=i):=by omega
  have hbN:b≠w.heap.size:=by omega
  have hdl:(cs.drop (i)).length=(n - i) * 1:=by rw [List.length_drop,hcl]; omega
  have hcpB:∀ (W:World),(∀ x,W.cell? x=(W1.setCells w.heap.size (i) vs).cell? x)→(∀ x,W.frozen? x=(W1.setCells w.heap.size (i) vs).frozen? x)→∀ ty dc sc,(Builtin.copy_ #[23,23] ty #[.slice (some ⟨w.heap.size,(i+1),none⟩) (n - i) dc,.slice (some ⟨b,off+i,none⟩) (n - i) sc]).run Tryz.prog W=.ok (goInt (n - i:Nat)) (W.setCells w.heap.size ((i+1)) (cs.drop (i))):=fun W hWc hWf ty dc sc =>
    mH W _ _ ty 9 1 w.heap.size ((i+1)) (n - i) dc ⟨b,off+i,none⟩ (n - i) sc (n - i) (by omega) (cs.drop (i)) tT hsz hdl
      (fun j v hj=>by
        rw [Addr.add_lit,hWc,World.cell?_setCells_out _ _ _ _ _ (fun h _=>absurd h hbN),Nat.add_assoc]
        exact hOb _ v (hcs (i+j) v (by rwa [List.getElem?_drop] at hj)))
      (fun j hj=>by rw [hWc]; exact sJ _ _ _ _ (fun t ht=>hN _ (by omega)) _ (hN _ (by omega)))
      (fun j hj=>by rw [hWf,World.frozen?_setCells]; exact hNf _) (fun v hv=>h1c v (List.mem_of_mem_drop hv))
  subst hW1
  have hE1:∀ x,((w.alloc (.cells ROW 9)).drew).cell? x=(w.drew.alloc (.cells ROW 9)).cell? x:=fun x=>rfl
  have hE2:∀ x,((w.alloc (.cells ROW 9)).drew).frozen? x=(w.drew.alloc (.cells ROW 9)).frozen? x:=fun x=>rfl
  have hF1:∀ x,(((w.alloc (.cells ROW 9)).drew.setCells w.heap.size (i) vs).drew).cell? x=((w.drew.alloc (.cells ROW 9)).setCells w.heap.size (i) vs).cell? x:=fun x=>rfl
  have hF2:∀ x,(((w.alloc (.cells ROW 9)).drew.setCells w.heap.size (i) vs).drew).frozen? x=((w.drew.alloc (.cells ROW 9)).setCells w.heap.size (i) vs).frozen? x:=fun x=>rfl
  have hw1:IntKind.i64.wrap ((i:Int)+1)=(i:Int)+1:=by rw [IntKind.wrap_i64]; omega
  have hw2:IntKind.i64.wrap ((n:Int)+1)=(n:Int)+1:=by rw [IntKind.wrap_i64]; omega
  have hw3:IntKind.i64.wrap ((n:Int)+1 - (i:Int))=(n:Int)+1 - (i:Int):=by rw [IntKind.wrap_i64]; omega
  have hb1:(0:Int)≤(i:Int)+1:=by omega
  have hin:i≤n:=by omega
  have htn:((i:Int)+1).toNat=i+1:=by omega
  have hb3:(i:Int)≤(n:Int):=by omega
  have hz2:¬ ((i:Int)=(n:Int)):=by omega
  have hz3:(c:Int) < (n:Int)+1:=by omega
  have hZ1:Hid (ROW.size=G):=hRs
  have hZ2:Hid (∀ t,t < i→ROW[t]? = cs[t]?):=hRt
  clear hkk hik hold hROW hG hRs hRt hie hsz5 hbz hzz hzs hb hb' htl hN hNf hOb hOv hcs hvs h1c h1v hcl hvl hdl
  go_enter Tryz.func62,Tryz.ntmps62
  go_wp2_with (first
    | (at_builtin; refine Lib.wpList_append_run _ rfl _ _ _ _ rfl _ _ rfl rfl _ _ (hrz _) ?_)
    | (at_builtin; refine wpList_copy_runI _ rfl _ _ 23 23 rfl _ _ rfl rfl (hcpA _ hE1 hE2 _ _) ?_)
    | (at_builtin; refine wpList_copy_runI _ rfl _ _ 23 23 rfl _ _ rfl rfl (hcpB _ (fun _=>rfl) (fun _=>rfl) _ _ _) ?_))
  go_region_law_o (refine step_copy_runI rfl _ _ 23 23 rfl (.slice (some ⟨w.heap.size,(i+1),none⟩) (n - i) (G - (i+1))) (.slice (some ⟨b,off+i,none⟩) (n - i) (c - i)) (by simp [Act.eval,Act.put]) (by simp [Act.eval,Act.put]) (hcpB _ hF1 hF2 3 (G - (i+1)) (c - i)) ?_)
  go_wp2
  go_ret
  exact ⟨G,ROW,hGn,hZ1.out,hZ2.out,rfl,rfl⟩
theorem cO1:aP4 Tryz.prog 62 9 1 where
 A:=fun b off n c vb voff vc w vs h1 h2 h3 h4 h5=>by simpa only [Nat.mul_one] using cT4 b off n c vb voff vc w vs h1 h2 h3 h4 (by simpa only [Nat.mul_one] using h5)
 B:=fun base n c vb voff vc w cs vs h1 h2 h3 h4 h5 h6 h7=>cQ8 base n c vb voff vc w cs vs h1 h2 h3 h4 h5 h6 h7
 C:=fun b off n c i vb voff vc w cs vs h1 h2 h3 h4 h5 h6 h7 h8 h9 h10 h11 h12=>by simpa only [Nat.mul_one] using cU5 b off n c i vb voff vc w cs vs (by simpa only [Nat.mul_one] using h1) h2 h3 h4 h5 h6 h7 h8 h9 h10 h11 h12
 D:=fun b off n c i vb voff vc w cs vs h1 h2 h3 h4 h5 h6 h7 h8 h9 h10 h11 h12 tA tB kA kB g1 g2 g3 g4 g5=>by simpa only [Nat.mul_one] using cT3 b off n c i vb voff vc w cs vs (by simpa only [Nat.mul_one] using h1) h2 h3 h4 h5 h6 h7 (by simpa only [Nat.mul_one] using h8) (by simpa only [Nat.mul_one] using h9) h10 h11 h12 tA tB kA kB g1 g2 g3 g4 g5
theorem bJ8 {q:Nat} {V V':AV} {κ3:TypeId} {α:Type} {enc:α→List Dat} {xs:List α} {x:α} {i:Int} (h:0≤i∧i≤(xs.length:Int)∧xs.length+1≤4294967296) (hκ3:1099511627776≤κ3)
  (hq:gR (bO [.vw (aF,q),.d (.v (.int .i64 i)),.own κ3 1 [enc x]] [V]) (aF,q)=.own 9 1 (xs.map enc))
  (hV:(aU (iM (bO [.vw (aF,q),.d (.v (.int .i64 i)),.own κ3 1 [enc x]] [V]) (aF,q) .junk) aF).dO (eZ aH)=V') :
  aS Tryz.prog 62 [.vw (aF,q),.d (.v (.int .i64 i)),.own κ3 1 [enc x]] [V] (.own 9 1 ((xs.take i.toNat++[x]++xs.drop i.toNat).map enc)) [V']:=by
 obtain ⟨j,rfl⟩:∃ j:Nat,i=j:=⟨i.toNat,by omega⟩
 rw [List.map_append,List.map_append,List.map_take,List.map_drop]
 exact aS.insert (es:=xs.map enc) (v:=enc x) (by decide) ⟨_,Tryz.func62,by kernel_rfl,by kernel_rfl⟩ cO1 (fun _=>rfl) (by simp; omega) (by simp; omega) (by decide) hκ3 hq hV
set_option maxHeartbeats 4000000 in
set_option maxRecDepth 1000000 in
theorem cT2 (b off n c vb voff vc:Nat) (w:World) (vs:List Value) (hvl:vs.length=1 * 5) (hroom:n+1≤c)
  (hvs:∀ t v,vs[t]? = some v→w.cell? ⟨vb,voff+t,none⟩=some v) (h1v:∀ v∈vs,v.oneCell'=true)
  (hsp:∀ j,j < vs.length→(w.cell? ⟨b,off+n * 5+j,none⟩).isSome=true∧w.frozen? ⟨b,off+n * 5+j,none⟩=false) :
  Calls Tryz.prog 63 #[.slice (some ⟨b,off,none⟩) n c,.int .i64 n,.slice (some ⟨vb,voff,none⟩) 1 vc] w fun e w'=>e=.returned (.slice (some ⟨b,off,none⟩) (n+1) c)∧w'=w.setCells b (off+n * 5) vs:=by
 have mixed:Tryz.prog.follows .mixedOrders=true:=by kernel_rfl
 have tT:Tryz.prog.underlying 24=some (.slice 26):=Tryz.underlying24
 obtain ⟨ie,hie,hsz⟩:∃ i0,Tryz.prog.info? 26=some i0∧i0.size=5:=⟨_,rfl,rfl⟩
 have s1:Hid (vs.length=1 * 5):=hvl
 have s2:Hid (∀ u∈vs,u.oneCell'=true):=h1v
 have s3:Hid (∀ t u,vs[t]? = some u→w.cell? ((⟨vb,voff,none⟩:Addr).add t)=some u):=fun t u h=>by rw [Addr.add_lit]; exact hvs t u h
 have s4:Hid (∀ j,j < vs.length→(w.cell? ⟨b,off+n * 5+j,none⟩).isSome=true∧w.frozen? ⟨b,off+n * 5+j,none⟩=false):=hsp
 obtain ⟨W1,hW1⟩:∃ W1,W1=w.setCells b (off+n * 5) vs:=⟨_,rfl⟩
 have happ:∀ ty,(Builtin.append_ #[24,24] ty #[.slice (some ⟨b,off,none⟩) n c,.slice (some ⟨vb,voff,none⟩) 1 vc]).run Tryz.prog w=.ok (.slice (some ⟨b,off,none⟩) (n+1) c) W1:=fun ty=>by
  have h:=run_append_room_cells (P:=Tryz.prog) w 24 ty 26 ie tT hie b off n c ⟨vb,voff,none⟩ 1 vc vs (by rw [hsz]; exact hvl) s3.out h1v hroom (by rw [hsz]; exact fun j hj=>(hsp j hj).1) (by rw [hsz]; exact fun j hj=>(hsp j hj).2)
  rw [hsz] at h
  rw [hW1]
  exact h
 have hW:Hid (W1=w.setCells b (off+n * 5) vs):=hW1
 have hnc:n≤c:=by omega
 clear hW1 hvl h1v hvs hsp
 go_enter Tryz.func63,Tryz.ntmps63
 go_wp2_with (at_builtin; refine Lib.wpList_append_run _ rfl _ _ _ _ rfl _ _ rfl rfl _ _ (happ _) ?_)
 go_wp2
 go_ret
 exact ⟨rfl,hW.out⟩
set_option maxHeartbeats 4000000 in
set_option maxRecDepth 1000000 in
theorem cT5 (base:Option Addr) (n c vb voff vc:Nat) (w:World) (cs vs:List Value) (hvl:vs.length=1 * 5) (hnc:n≤c) (hroom:c < n+1) (hn:n≤4294967296)
  (hold:∀ w':World,w'.heap=w.heap→(Builtin.firstCells 5 n (.slice base n c)).run Tryz.prog w'=.ok cs.toArray w')
  (hvs:∀ t v,vs[t]? = some v→w.cell? ⟨vb,voff+t,none⟩=some v) (h1v:∀ v∈vs,v.oneCell'=true) :
  Calls Tryz.prog 63 #[.slice base n c,.int .i64 n,.slice (some ⟨vb,voff,none⟩) 1 vc] w fun e w'=>∃ (G:Nat) (zz:Array Value),n+1≤G∧zz.size=(G - (n+1)) * 5∧e=.returned (.slice (some ⟨w.heap.size,0,none⟩) (n+1) G)∧w'=w.drew.alloc (.cells ((cs++vs).toArray++zz) 26):=by
 have mixed:Tryz.prog.follows .mixedOrders=true:=by kernel_rfl
 have tT:Tryz.prog.underlying 24=some (.slice 26):=Tryz.underlying24
 obtain ⟨ie,z,hie,hsz,hbz,hzz,hzs⟩:∃ i0 z,Tryz.prog.info? 26=some i0∧i0.size=5∧i0.bytes≤1000∧i0.zero=some z∧z.cells.size=5:=⟨_,_,rfl,rfl,by decide,rfl,rfl⟩
 have hsrc:Src Tryz.prog w 24 ie.size (.slice (some ⟨vb,voff,none⟩) 1 vc) 1 vs:=⟨.inl ⟨_,tT⟩,rfl,fun w' hw'=>run_firstCells_some (P:=Tryz.prog) w' ie.size 1 ⟨vb,voff,none⟩ 1 vc vs (by rw [hsz]; exact hvl) (fun t u h=>by
  rw [Addr.add_lit]
  have:=hvs t u h
  simpa [World.cell?,hw'] using this),by rw [hsz]; exact hvl,h1v⟩
 obtain ⟨G,hG⟩:∃ G,G=grownCap w (n+1) c 26:=⟨_,rfl⟩
 have hGn:n+1≤G:=by rw [hG]; exact grownCap_ge w _ _ _
 have hb:(n+1) * ie.bytes≤140737488355328:=by
  have:(n+1) * ie.bytes≤(n+1) * 1000:=Nat.mul_le_mul_left _ hbz
  omega
 obtain ⟨zz,hz2⟩:∃ zz,zz=Builtin.zeroCells z.cells (G - (n+1)):=⟨_,rfl⟩
 have hzzs:zz.size=(G - (n+1)) * 5:=by rw [hz2]; simp [Builtin.zeroCells,hzs]
 obtain ⟨W1,hW1⟩:∃ W1,W1=w.drew.alloc (.cells ((cs++vs).toArray++zz) 26):=⟨_,rfl⟩
 have happ:∀ ty,(Builtin.append_ #[24,24] ty #[.slice base n c,.slice (some ⟨vb,voff,none⟩) 1 vc]).run Tryz.prog w=.ok (.slice (some ⟨w.heap.size,0,none⟩) (n+1) G) W1:=fun ty=>by
  have h:=run_append_grow' (P:=Tryz.prog) (w:=w) (ty:=ty) 24 24 26 ie z tT hie hzz base n c cs (by rw [hsz]; exact hold) hsrc hroom (by omega) hb
  rw [hW1,hz2,hG,show (cs++vs).toArray=cs.toArray++vs.toArray by simp]
  exact h
 have hW:Hid (W1=w.drew.alloc (.cells ((cs++vs).toArray++zz) 26)):=hW1
 have hZ:Hid (zz.size=(G - (n+1)) * 5):=hzzs
 clear hW1 hvl h1v hvs hold hsrc hz2 hzzs hb hG hie hsz hbz hzz hzs
 go_enter Tryz.func63,Tryz.ntmps63
 go_wp2_with (at_builtin; refine Lib.wpList_append_run _ rfl _ _ _ _ rfl _ _ rfl rfl _ _ (happ _) ?_)
 go_wp2
 go_ret
 exact ⟨G,zz,hGn,hZ.out,rfl,hW.out⟩
set_option maxHeartbeats 4000000 in
set_option maxRecDepth 1000000 in
theorem cR2 (b off n c i vb voff vc:Nat) (w:World) (cs vs:List Value) (hcl:cs.length=n * 5) (hvl:vs.length=1 * 5) (hi:i < n) (hroom:n+1≤c) (hc63:n≤4294967296) (hvb:vb≠b)
  (hcs:∀ t v,cs[t]? = some v→w.cell? ⟨b,off+t,none⟩=some v) (hsp:∀ j,j < (n+1) * 5→(w.cell? ⟨b,off+j,none⟩).isSome=true) (hfz:∀ j,j < (n+1) * 5→w.frozen? ⟨b,off+j,none⟩=false)
  (hvs:∀ t v,vs[t]? = some v→w.cell? ⟨vb,voff+t,none⟩=some v) (h1c:∀ v∈cs,v.oneCell'=true) (h1v:∀ v∈vs,v.oneCell'=true)
  (tA tB:TypeId) (kA kB:Nat) (hsa:w.shape? vb=some (tA,kA)) (hsb:w.shape? b=some (tB,kB)) (hkB:kB≠0) (hfa:w.frozen? ⟨vb,voff,none⟩=false) (hfe:w.frozen? ⟨vb,kA,none⟩=false) :
  Calls Tryz.prog 63 #[.slice (some ⟨b,off,none⟩) n c,.int .i64 i,.slice (some ⟨vb,voff,none⟩) 1 vc] w fun e w'=>e=.returned (.slice (some ⟨b,off,none⟩) (n+1) c)∧w'=(w.drew.setCells b (off+(i+1) * 5) (cs.drop (i * 5))).setCells b (off+i * 5) vs:=by
 have mixed:Tryz.prog.follows .mixedOrders=true:=by kernel_rfl
 have tT:Tryz.prog.underlying 24=some (.slice 26):=Tryz.underlying24
 have hsz:(Tryz.prog.info? 26).map (·.size)=some 5:=rfl
 have hov:∀ lb cb,(callFunc 93 #[.slice (some ⟨vb,voff,none⟩) 1 vc,.slice (some ⟨b,off+(i+1) * 5,none⟩) lb cb]).run Tryz.prog w=.ok (.value (.bool false)) w:=fun lb cb=>by
  rw [run_callFunc_extern Tryz.func93 (by kernel_rfl) (by kernel_rfl) (by kernel_rfl) (e:=Extern.SlicesOverlaps.overlaps #[24,24] #[4]) (by kernel_rfl),
   Lib.run_overlaps_apart w 24 4 26 tT 5 Tryz.sizeOf26 ⟨vb,voff,none⟩ ⟨b,off+(i+1) * 5,none⟩ 1 vc lb cb hvb tA tB kA kB hsa hsb hkB hfa hfe]
  rfl
 have hdl:(cs.drop (i * 5)).length=(n - i) * 5:=by rw [List.length_drop,hcl]; omega
 have hw1:IntKind.i64.wrap ((i:Int)+1)=(i:Int)+1:=by rw [IntKind.wrap_i64]; omega
 have hw2:IntKind.i64.wrap ((n:Int)+1)=(n:Int)+1:=by rw [IntKind.wrap_i64]; omega
 have hb1:(0:Int)≤(i:Int)+1:=by omega
 have hin:i≤n:=by omega
 have htn:((i:Int)+1).toNat=i+1:=by omega
 have htn2:((n:Int)+1).toNat=n+1:=by omega
 have hb2:¬ (c=i+1):=by omega
 have hb3:(i:Int)≤(n:Int)+1:=by omega
 have hb4:¬ (c=i):=by omega
 have hz2:¬ ((i:Int)=(n:Int)):=by omega
 have hz3:¬ ((c:Int) < (n:Int)+1):=by omega
 have hcp1:∀ ty dc sc,(Builtin.copy_ #[24,24] ty #[.slice (some ⟨b,off+(i+1) * 5,none⟩) (n - i) dc,.slice (some ⟨b,off+i * 5,none⟩) (n+1 - i) sc]).run Tryz.prog w.drew=.ok (goInt (n - i:Nat)) (w.drew.setCells b (off+(i+1) * 5) (cs.drop (i * 5))):=fun ty dc sc =>
  mH w.drew _ _ ty 26 5 b (off+(i+1) * 5) (n - i) dc ⟨b,off+i * 5,none⟩ (n+1 - i) sc (n - i) (by omega) (cs.drop (i * 5)) tT hsz hdl
   (fun j v hj=>by rw [Addr.add_lit,Nat.add_assoc]; exact hcs (i * 5+j) v (by rwa [List.getElem?_drop] at hj))
   (fun j hj=>by rw [Nat.add_assoc]; exact hsp _ (by omega)) (fun j hj=>by rw [Nat.add_assoc]; exact hfz _ (by omega)) (fun v hv=>h1c v (List.mem_of_mem_drop hv))
 obtain ⟨W1,hW1⟩:∃ W1,W1=w.drew.setCells b (off+(i+1) * 5) (cs.drop (i * 5)):=⟨_,rfl⟩
 have hsp1:∀ k,k < (n+1) * 5→(W1.cell? ⟨b,off+k,none⟩).isSome=true:=fun k hk=>by
  rw [hW1]
  exact sJ b _ _ _ (fun j hj=>by rw [Nat.add_assoc]; exact hsp _ (by omega)) _ (hsp k hk)
 have hcp2:∀ (W:World),(∀ x,W.cell? x=W1.cell? x)→(∀ x,W.frozen? x=W1.frozen? x)→∀ ty dc,(Builtin.copy_ #[24,24] ty #[.slice (some ⟨b,off+i * 5,none⟩) (n+1 - i) dc,.slice (some ⟨vb,voff,none⟩) 1 vc]).run Tryz.prog W=.ok (goInt (1:Nat)) (W.setCells b (off+i * 5) vs):=fun W hWc hWf ty dc =>
  mH W _ _ ty 26 5 b (off+i * 5) (n+1 - i) dc ⟨vb,voff,none⟩ 1 vc 1 (by omega) vs tT hsz hvl
   (fun j v hj=>by
    rw [Addr.add_lit,hWc,hW1,World.cell?_setCells_out b _ _ _ _ (fun h _=>absurd h hvb)]
    exact hvs j v hj)
   (fun j hj=>by rw [hWc,Nat.add_assoc]; exact hsp1 _ (by omega)) (fun j hj=>by rw [hWf,hW1,World.frozen?_setCells,Nat.add_assoc]; exact hfz _ (by omega)) h1v
 rw [← hW1] at hcp1
 have hW:Hid (W1=w.drew.setCells b (off+(i+1) * 5) (cs.drop (i * 5))):=hW1
 clear hdl hsp1 hcs hsp hfz hvs h1c h1v hsa hsb hkB hfa hfe hcl hvl
 go_enter Tryz.func63,Tryz.ntmps63
 go_wp2_with (simp only [hov])
 go_region_law_o (refine step_copy_runI rfl _ _ 24 24 rfl _ _ (by simp [Act.eval,Act.put]) (by simp [Act.eval,Act.put]) (hcp1 _ _ _) ?_)
 go_wp2_with (at_builtin; refine wpList_copy_runI _ rfl _ _ 24 24 rfl _ _ rfl rfl (hcp2 _ (fun _=>rfl) (fun _=>rfl) _ _) ?_)
 go_ret
 first | exact ⟨rfl,rfl⟩ | exact ⟨rfl,by rw [hW1]⟩ | exact ⟨rfl,by rw [hW.out]⟩
set_option maxHeartbeats 4000000 in
set_option maxRecDepth 1000000 in
theorem cT8 (b off n c i vb voff vc:Nat) (w:World) (cs vs:List Value) (hcl:cs.length=n * 5) (hvl:vs.length=1 * 5) (hi:i < n) (hnc:n≤c) (hroom:c < n+1) (hc63:n≤4294967296) (hbw:b < w.heap.size) (hvw:vb < w.heap.size)
    (hcs:∀ t v,cs[t]? = some v→w.cell? ⟨b,off+t,none⟩=some v)
    (hvs:∀ t v,vs[t]? = some v→w.cell? ⟨vb,voff+t,none⟩=some v) (h1c:∀ v∈cs,v.oneCell'=true) (h1v:∀ v∈vs,v.oneCell'=true) :
    Calls Tryz.prog 63 #[.slice (some ⟨b,off,none⟩) n c,.int .i64 i,.slice (some ⟨vb,voff,none⟩) 1 vc] w fun e w'=>∃ (G:Nat) (ROW:Array Value),n+1≤G∧ROW.size=G * 5∧(∀ t,t < i * 5→ROW[t]? = cs[t]?)∧e=.returned (.slice (some ⟨w.heap.size,0,none⟩) (n+1) G) ∧
      w'=(((w.alloc (.cells ROW 26)).drew.setCells w.heap.size (i * 5) vs).drew).setCells w.heap.size ((i+1) * 5) (cs.drop (i * 5)):=by
  have mixed:Tryz.prog.follows .mixedOrders=true:=by kernel_rfl
  have tT:Tryz.prog.underlying 24=some (.slice 26):=Tryz.underlying24
  have hsz:(Tryz.prog.info? 26).map (·.size)=some 5:=rfl
  obtain ⟨ie,z,hie,hsz5,hbz,hzz,hzs⟩:∃ i0 z,Tryz.prog.info? 26=some i0∧i0.size=5∧i0.bytes≤1000∧i0.zero=some z∧z.cells.size=5:=⟨_,_,rfl,rfl,by decide,rfl,rfl⟩
  have hkk:(n:Int)+1 - (i:Int)=((n+1 - i:Nat):Int):=by omega
  have hik:i+(n+1 - i)=n+1:=by omega
  have htl:(cs.take (i * 5)).length=i * 5:=by rw [List.length_take,hcl]; omega
  have hold:(Builtin.firstCells ie.size i (.slice (some ⟨b,off,none⟩) i c)).run Tryz.prog w.drew=.ok (cs.take (i * 5)).toArray w.drew :=
    run_firstCells_some (P:=Tryz.prog) w.drew ie.size i ⟨b,off,none⟩ i c (cs.take (i * 5)) (by rw [hsz5]; exact htl) (fun t u h=>by
      rw [Addr.add_lit]
      rw [List.getElem?_take] at h
      split at h
      · exact hcs t u h
      · cases h)
  have hb:(n+1) * ie.bytes≤140737488355328:=by
    have:(n+1) * ie.bytes≤(n+1) * 1000:=Nat.mul_le_mul_left _ hbz
    omega
  have hb':(n+1 - i) * ie.bytes≤281474976710656:=by
    have:(n+1 - i) * ie.bytes≤(n+1) * ie.bytes:=Nat.mul_le_mul_right _ (by omega)
    omega
  have hrz:∀ ty,(Builtin.append_ #[24,3] ty #[.slice (some ⟨b,off,none⟩) i c,.int .i64 ((n:Int)+1 - (i:Int))]).run Tryz.prog w =
      .ok (.slice (some ⟨w.heap.size,0,none⟩) (n+1) (grownCap w (n+1) c 26)) (w.drew.alloc (.cells ((cs.take (i * 5)).toArray++Builtin.zeroCells z.cells (n+1 - i)++Builtin.zeroCells z.cells (grownCap w (n+1) c 26 - (n+1))) 26)):=fun ty=>by
    have h:=Lib.run_append_grow_zeros w 24 3 ty 26 ie z .i64 .i64 tT Tryz.underlying3 hie hzz (some ⟨b,off,none⟩) i c (cs.take (i * 5)) hold (n+1 - i) (by omega) (by omega) (by omega) (by omega) hb' (by rw [hik]; exact growslice_fits hroom hb)
    rw [hik] at h
    rw [hkk]
    exact h
  obtain ⟨G,hG⟩:∃ G,G=grownCap w (n+1) c 26:=⟨_,rfl⟩
  have hGn:n+1≤G:=by rw [hG]; exact grownCap_ge w _ _ _
  obtain ⟨ROW,hROW⟩:∃ ROW:Array Value,ROW=(cs.take (i * 5)).toArray++Builtin.zeroCells z.cells (n+1 - i)++Builtin.zeroCells z.cells (G - (n+1)):=⟨_,rfl⟩
  rw [← hG] at hrz
  rw [← hROW] at hrz
  have hRs:ROW.size=G * 5:=by
    rw [hROW]
    simp only [Array.size_append,List.size_toArray,htl,Builtin.zeroCells,Array.size_map,Array.size_range,hzs]
    omega
  have hRt:∀ t,t < i * 5→ROW[t]? = cs[t]? := fun t ht=>by
    rw [hROW,Array.append_assoc,Array.getElem?_append_left (by simpa [htl] using ht)]
    simp [List.getElem?_take,ht]
  obtain ⟨W1,hW1⟩:∃ W1,W1=w.drew.alloc (.cells ROW 26):=⟨_,rfl⟩
  rw [← hW1] at hrz
  have hN:∀ j,j < G * 5→(W1.cell? ⟨w.heap.size,j,none⟩).isSome=true:=fun j hj=>by
    rw [hW1,World.cell?_alloc_at (w:=w.drew) ROW _ w.heap.size j rfl,Array.getElem?_eq_getElem (by omega)]; rfl
  have hNf:∀ j,W1.frozen? ⟨w.heap.size,j,none⟩=false:=fun j=>by rw [hW1]; exact World.frozen?_alloc_at (w:=w.drew) ROW _ w.heap.size j rfl
  have hOb:∀ j v,w.cell? ⟨b,j,none⟩=some v→W1.cell? ⟨b,j,none⟩=some v:=fun j v h=>by rw [hW1,World.cell?_alloc_past (w:=w.drew) _ b j hbw]; exact h
  have hOv:∀ j v,w.cell? ⟨vb,j,none⟩=some v→W1.cell? ⟨vb,j,none⟩=some v:=fun j v h=>by rw [hW1,World.cell?_alloc_past (w:=w.drew) _ vb j hvw]; exact h
  have hcpA:∀ (W:World),(∀ x,W.cell? x=W1.cell? x)→(∀ x,W.frozen? x=W1.frozen? x)→∀ ty dc,(Builtin.copy_ #[24,24] ty #[.slice (some ⟨w.heap.size,i * 5,none⟩) (n+1 - i) dc,.slice (some ⟨vb,voff,none⟩) 1 vc]).run Tryz.prog W=.ok (goInt (1:Nat)) (W.setCells w.heap.size (i * 5) vs):=fun W hWc hWf ty dc =>
    mH W _ _ ty 26 5 w.heap.size (i * 5) (n+1 - i) dc ⟨vb,voff,none⟩ 1 vc 1 (by omega) vs tT hsz hvl
      (fun j v hj=>by rw [Addr.add_lit,hWc]; exact hOv _ v (hvs j v hj))
      (fun j hj=>by rw [hWc]; exact hN _ (by omega)) (fun j hj=>by rw [hWf]; exact hNf _) h1v
  have hG63:G≤9223372036854775807:=by
    have:=grownCap_le_maxLen w (n+1) c 26 (by unfold maxLen; omega)
    rw [← hG] at this
    unfold maxLen at this
    omega
  have hGi:¬ (G=i):=by omega
  have hGim:¬ (G=i+1):=by omega
  have hci:¬ (c=i):=by omega
  have hbN:b≠w.heap.size:=by omega
  have hdl:(cs.drop (i * 5)).length=(n - i) * 5:=by rw [List.length_drop,hcl]; omega
  have hcpB:∀ (W:World),(∀ x,W.cell? x=(W1.setCells w.heap.size (i * 5) vs).cell? x)→(∀ x,W.frozen? x=(W1.setCells w.heap.size (i * 5) vs).frozen? x)→∀ ty dc sc,(Builtin.copy_ #[24,24] ty #[.slice (some ⟨w.heap.size,(i+1) * 5,none⟩) (n - i) dc,.slice (some ⟨b,off+i * 5,none⟩) (n - i) sc]).run Tryz.prog W=.ok (goInt (n - i:Nat)) (W.setCells w.heap.size ((i+1) * 5) (cs.drop (i * 5))):=fun W hWc hWf ty dc sc =>
    mH W _ _ ty 26 5 w.heap.size ((i+1) * 5) (n - i) dc ⟨b,off+i * 5,none⟩ (n - i) sc (n - i) (by omega) (cs.drop (i * 5)) tT hsz hdl
      (fun j v hj=>by
        rw [Addr.add_lit,hWc,World.cell?_setCells_out _ _ _ _ _ (fun h _=>absurd h hbN),Nat.add_assoc]
        exact hOb _ v (hcs (i * 5+j) v (by rwa [List.getElem?_drop] at hj)))
      (fun j hj=>by rw [hWc]; exact sJ _ _ _ _ (fun t ht=>hN _ (by omega)) _ (hN _ (by omega)))
      (fun j hj=>by rw [hWf,World.frozen?_setCells]; exact hNf _) (fun v hv=>h1c v (List.mem_of_mem_drop hv))
  subst hW1
  have hE1:∀ x,((w.alloc (.cells ROW 26)).drew).cell? x=(w.drew.alloc (.cells ROW 26)).cell? x:=fun x=>rfl
  have hE2:∀ x,((w.alloc (.cells ROW 26)).drew).frozen? x=(w.drew.alloc (.cells ROW 26)).frozen? x:=fun x=>rfl
  have hF1:∀ x,(((w.alloc (.cells ROW 26)).drew.setCells w.heap.size (i * 5) vs).drew).cell? x=((w.drew.alloc (.cells ROW 26)).setCells w.heap.size (i * 5) vs).cell? x:=fun x=>rfl
  have hF2:∀ x,(((w.alloc (.cells ROW 26)).drew.setCells w.heap.size (i * 5) vs).drew).frozen? x=((w.drew.alloc (.cells ROW 26)).setCells w.heap.size (i * 5) vs).frozen? x:=fun x=>rfl
  have hw1:IntKind.i64.wrap ((i:Int)+1)=(i:Int)+1:=by rw [IntKind.wrap_i64]; omega
  have hw2:IntKind.i64.wrap ((n:Int)+1)=(n:Int)+1:=by rw [IntKind.wrap_i64]; omega
  have hw3:IntKind.i64.wrap ((n:Int)+1 - (i:Int))=(n:Int)+1 - (i:Int):=by rw [IntKind.wrap_i64]; omega
  have hb1:(0:Int)≤(i:Int)+1:=by omega
  have hin:i≤n:=by omega
  have htn:((i:Int)+1).toNat=i+1:=by omega
  have hb3:(i:Int)≤(n:Int):=by omega
  have hz2:¬ ((i:Int)=(n:Int)):=by omega
  have hz3:(c:Int) < (n:Int)+1:=by omega
  have hZ1:Hid (ROW.size=G * 5):=hRs
  have hZ2:Hid (∀ t,t < i * 5→ROW[t]? = cs[t]?):=hRt
  clear hkk hik hold hROW hG hRs hRt hie hsz5 hbz hzz hzs hb hb' htl hN hNf hOb hOv hcs hvs h1c h1v hcl hvl hdl
  go_enter Tryz.func63,Tryz.ntmps63
  go_wp2_with (first
    | (at_builtin; refine Lib.wpList_append_run _ rfl _ _ _ _ rfl _ _ rfl rfl _ _ (hrz _) ?_)
    | (at_builtin; refine wpList_copy_runI _ rfl _ _ 24 24 rfl _ _ rfl rfl (hcpA _ hE1 hE2 _ _) ?_)
    | (at_builtin; refine wpList_copy_runI _ rfl _ _ 24 24 rfl _ _ rfl rfl (hcpB _ (fun _=>rfl) (fun _=>rfl) _ _ _) ?_))
  go_region_law_o (refine step_copy_runI rfl _ _ 24 24 rfl (.slice (some ⟨w.heap.size,(i+1) * 5,none⟩) (n - i) (G - (i+1))) (.slice (some ⟨b,off+i * 5,none⟩) (n - i) (c - i)) (by simp [Act.eval,Act.put]) (by simp [Act.eval,Act.put]) (hcpB _ hF1 hF2 3 (G - (i+1)) (c - i)) ?_)
  go_wp2
  go_ret
  exact ⟨G,ROW,hGn,hZ1.out,hZ2.out,rfl,rfl⟩
theorem cO0:aP4 Tryz.prog 63 26 5 where
 A:=cT2
 B:=cT5
 C:=cT8
 D:=cR2
theorem bJ1 {q:Nat} {V V':AV} {κ3:TypeId} {α:Type} {enc:α→List Dat} {xs:List α} {x:α} {i:Int} (h:0≤i∧i≤(xs.length:Int)∧xs.length+1≤4294967296) (hκ3:1099511627776≤κ3)
  (hq:gR (bO [.vw (aF,q),.d (.v (.int .i64 i)),.own κ3 5 [enc x]] [V]) (aF,q)=.own 26 5 (xs.map enc))
  (hV:(aU (iM (bO [.vw (aF,q),.d (.v (.int .i64 i)),.own κ3 5 [enc x]] [V]) (aF,q) .junk) aF).dO (eZ aH)=V') :
  aS Tryz.prog 63 [.vw (aF,q),.d (.v (.int .i64 i)),.own κ3 5 [enc x]] [V] (.own 26 5 ((xs.take i.toNat++[x]++xs.drop i.toNat).map enc)) [V']:=by
 obtain ⟨j,rfl⟩:∃ j:Nat,i=j:=⟨i.toNat,by omega⟩
 rw [List.map_append,List.map_append,List.map_take,List.map_drop]
 exact aS.insert (es:=xs.map enc) (v:=enc x) (by decide) ⟨_,Tryz.func63,by kernel_rfl,by kernel_rfl⟩ cO0 (fun _=>rfl) (by simp; omega) (by simp; omega) (by decide) hκ3 hq hV
end Go.Vm.ObjM
