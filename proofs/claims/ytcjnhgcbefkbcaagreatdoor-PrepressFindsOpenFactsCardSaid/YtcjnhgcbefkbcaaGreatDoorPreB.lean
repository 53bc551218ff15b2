import Derived.Test.YtcjnhgcbefkbcaaGreatDoorProg
import Derived.Test.YtcjnhgcbefkbcaaGreatDoorVmC
import Derived.WalkKit
import Derived.Shelf.RegionOpenPlain
import Derived.Laws.Externs
import Derived.Test.YtcjnhgcbefkbcaaGreatDoorPreS
import Derived.Test.YtcjnhgcbefkbcaaGreatDoorVmD
import Derived.Lib.AppendIntMem
import Derived.Deep.RegionLaw
import Derived.Lib.Walk
import Derived.Lib.SliceRun
import Derived.Test.YtcjnhgcbefkbcaaGreatDoorPreF
namespace Go.Vm.PreG
open Go.Proofs Go.RowKit
set_option maxHeartbeats 1000000 in
set_option maxRecDepth 100000 in
theorem cc_used (b off:Nat) (w:World) (h0:w.cell? ⟨b,off,none⟩=some (.pointer (some ⟨b,off,none⟩))) :
    Calls Tryz.prog 74 #[.pointer (some ⟨b,off,none⟩)] w fun e w'=>e=.returned (.tuple #[])∧w'=w:=by
  have hp:Tryz.prog.underlying 87=some (.pointer 90):=Tryz.underlying87
  obtain ⟨j,hj,_⟩:∃ j,Tryz.prog.info? 90=some j∧j.size≠0:=⟨_,rfl,by decide⟩
  go_enter Tryz.func74,Tryz.ntmps74
  go_wp2
  rw [Lib.run_neq_ptr_same w _ hp hj]
  go_wp2
  go_end0
  exact ⟨rfl,rfl⟩
set_option maxHeartbeats 1000000 in
set_option maxRecDepth 100000 in
theorem cc_fresh (b off E n:Nat) (w:World) (h0:w.cell? ⟨b,off,none⟩=some (.pointer none)) (hsh:w.shape? b=some (E,n)) (hoff:off < n) (hlies:liesAt Tryz.prog Tryz.prog.depth E (n / Tryz.prog.cellsOf E) off 90 1=true) (hfz:w.frozen? ⟨b,off,none⟩=false) :
    Calls Tryz.prog 74 #[.pointer (some ⟨b,off,none⟩)] w fun e w'=>e=.returned (.tuple #[])∧w'=w.setCell ⟨b,off,none⟩ (.pointer (some ⟨b,off,none⟩)):=by
  have hp:Tryz.prog.underlying 87=some (.pointer 90):=Tryz.underlying87
  have hu:Tryz.prog.underlying 144=some .unsafePointer:=Tryz.underlying144
  obtain ⟨j,hj,hjs⟩:∃ j,Tryz.prog.info? 90=some j∧j.size≠0:=⟨_,rfl,by decide⟩
  go_enter Tryz.func74,Tryz.ntmps74
  go_wp2
  rw [Lib.run_to_unsafe w ⟨b,off,none⟩ hp hu hj hjs hsh hoff]
  simp only [Result.andThen]
  rw [Oper.upon_value]
  go_wp2
  rw [run_callFunc_extern Tryz.func97 (by kernel_rfl) (by kernel_rfl) (by kernel_rfl) (e:=Extern.AbiNoEscape.same) (by kernel_rfl)]
  rw [Lib.run_noEscape]
  simp only [Result.andThen]
  rw [Oper.upon_value]
  go_wp2
  rw [Lib.run_from_unsafe w ⟨b,off,none⟩ hu hp hj hsh hlies]
  simp only [Result.andThen]
  rw [Oper.upon_value]
  go_wp2
  go_end0
  exact ⟨rfl,rfl⟩
theorem b_copyCheck {off E:Nat} {cs:List AV} (hc:cs[off]? = some (.slf off E)) (hlies:liesAt Tryz.prog Tryz.prog.depth E (cs.length / Tryz.prog.cellsOf E) off 90 1=true) (hb:(AV.box cs).backOk=true):ACall Tryz.prog 74 [.bp virtBase off] [.box cs] (.tup []) [.box cs] :=
  ACall.copyCheck (tb:=90) ⟨_,Tryz.func74,by kernel_rfl,by kernel_rfl⟩ cc_used cc_fresh hc hlies hb
set_option maxHeartbeats 1000000 in
set_option maxRecDepth 100000 in
theorem bs_walk (b off n c:Nat) (q p:Option Addr) (s:ByteArray) (w w1 w2:World) (c1:w.drew.cell? ⟨b,off+1,none⟩=some (.slice q n c)) (c2:w1.cell? ⟨b,off+1,none⟩=some (.slice q n c))
    (hSD:(Builtin.unsafeSliceData_ #[88] 127 #[.slice q n c]).run Tryz.prog w.drew=.ok (.pointer p) w1) (hUS:(Builtin.unsafeString_ #[127,3] 9 #[.pointer p,.int .i64 n]).run Tryz.prog w1=.ok (.string s) w2) :
    Calls Tryz.prog 48 #[.pointer (some ⟨b,off,none⟩)] w fun e w'=>e=.returned (.string s)∧w'=w2:=by
  have mixed:Tryz.prog.follows .mixedOrders=true:=by kernel_rfl
  go_enter Tryz.func48,Tryz.ntmps48
  go_wp2
  go_region
  all_goals (go_wp2; go_ret; exact ⟨rfl,rfl⟩)
theorem b_String {off:Nat} {cs:List AV} {l:List UInt8} (hl63:l.length≤9223372036854775807) (hc:cs[off+1]? = some (.own 5 1 (l.map cU))) (hb:(AV.box (cs.set (off+1) .junk)).backOk=true):ACall Tryz.prog 48 [.bp virtBase off] [.box cs] (.d (.str l)) [.box (cs.set (off+1) .junk)] :=
  ACall.bString ⟨_,Tryz.func48,by kernel_rfl,by kernel_rfl⟩ Tryz.underlying127 (by kernel_rfl) (by decide) bs_walk hl63 hc hb
theorem b_Itoa {n:Int} (h : -9223372036854775808≤n∧n≤9223372036854775807):ACall Tryz.prog 76 [.d (.v (.int .i64 n))] [.glo 3 (glob_internal_strconv_uint64pow10.flatMap (cI .u64))] (.d (.str (Lib.itoa n))) [.glo 3 (glob_internal_strconv_uint64pow10.flatMap (cI .u64))] :=
  ACall.ofBelowG ⟨_,Tryz.func76,by kernel_rfl,by kernel_rfl⟩ (us:=[.int .i64 n]) (u:=strOf (Lib.itoa n)) rfl rfl rfl fun w S hg=>(Tryz.strconv_Itoa n h.1 h.2 w (TabIs.of_glo (by kernel_rfl) hg)).mono (by rintro e w' ⟨rfl,k,os,rfl⟩; exact ⟨rfl,Lib.below_grow _ _ (Nat.le_refl _) _ _⟩)
theorem b_ReplaceAll {gm0:Int} {l o n:List UInt8} (h:l.length < 4294967281∧1≤o.length∧l.length+Lib.count l o * n.length≤140737488355328):ACall Tryz.prog 75 [.d (.str l),.d (.str o),.d (.str n)] [.glo 0 ([gm0].flatMap (cI .i64))] (.d (.str (Lib.replaceAll l o n))) [.glo 0 ([gm0].flatMap (cI .i64))] :=
  ACall.ofBelowG ⟨_,Tryz.func75,by kernel_rfl,by kernel_rfl⟩ (us:=[strOf l,strOf o,strOf n]) (u:=strOf (Lib.replaceAll l o n)) rfl rfl rfl fun w S hg=>by
    obtain ⟨arr,E,fz,_,h2,_,⟨u,hu,hr⟩,_⟩:=hg
    have hc:w.cell? ⟨0,0,none⟩=some (.int .i64 gm0):=by
      have e:u=.int .i64 gm0:=hr.1
      simp only [World.cell?,h2,Option.isSome_none,Bool.false_eq_true,if_false]
      rw [← e]; exact hu
    exact Tryz.strings_ReplaceAll ⟨l.toArray⟩ ⟨o.toArray⟩ ⟨n.toArray⟩ gm0 w (by simpa [ByteArray.size] using h.1) hc (by simpa [ByteArray.size] using h.2.1) (by simpa [ByteArray.size,Lib.countB] using h.2.2)
theorem b_Sort_39 {q:Nat} {V V':AV} {κ:TypeId} {l:List (List UInt8)} (hb:l.length≤4294967296) (hq:pget (finFr [.vw (virtBase,q)] [V]) (virtBase,q)=.own κ 1 (l.map cS))
    (hV:fget (pset (finFr [.vw (virtBase,q)] [V]) (virtBase,q) (.own κ 1 ((sortS l).map cS))) virtBase=V'):ACall Tryz.prog 39 [.vw (virtBase,q)] [V] (.tup []) [V'] :=
  ACall.sortStr ⟨_,Tryz.func39,by kernel_rfl,by kernel_rfl⟩ (sortS_len l) hq hV (fun blk off cap w hH hb'=>Tryz.slices_Sort_string blk off cap l w hH hb' (by omega)) (fun p cap w=>Tryz.slices_Sort_string_none p cap w)
theorem b_Compact_40 {q:Nat} {V V':AV} {κ:TypeId} {l:List (List UInt8)} (hb:l.length≤4294967296) (hq:pget (finFr [.vw (virtBase,q)] [V]) (virtBase,q)=.own κ 1 (l.map cS))
    (hV:(fget (pset (finFr [.vw (virtBase,q)] [V]) (virtBase,q) .junk) virtBase).purge (slotP resSlot)=V'):ACall Tryz.prog 40 [.vw (virtBase,q)] [V] (.own κ 1 ((Lib.compact l).map cS)) [V'] :=
  ACall.compactStr ⟨_,Tryz.func40,by kernel_rfl,by kernel_rfl⟩ hb hq hV (fun blk off cap zs w h1 h2 h3=>Tryz.slices_Compact_string blk off cap zs w h1 h2 h3) (fun p cap w=>Tryz.slices_Compact_string_empty p cap w) (compact_len l) (fun h=>by rw [h]; rfl)
set_option maxHeartbeats 4000000 in
set_option maxRecDepth 1000000 in
theorem del_same_58 (n i:Nat) (q:Option Addr) (c:Nat) (w:World) (hn:n≤c) (hi:i≤n):Calls Tryz.prog 58 #[.slice q n c,.int .i64 i,.int .i64 i] w fun e w'=>e=.returned (.slice q n c)∧w'=w:=by
  have mixed:Tryz.prog.follows .mixedOrders=true:=by kernel_rfl
  go_enter Tryz.func58,Tryz.ntmps58
  go_wp2
  all_goals (go_ret; exact ⟨rfl,rfl⟩)
set_option maxHeartbeats 4000000 in
set_option maxRecDepth 1000000 in
theorem del_walk_58 (b off n c i j:Nat) (w:World) (cs:List Value) (hcl:cs.length=n * 2) (hnc:n≤c) (hij:i < j) (hj:j≤n)
    (hcs:∀ t v,cs[t]? = some v→w.cell? ⟨b,off+t,none⟩=some v) (hfz:∀ t,t < n * 2→w.frozen? ⟨b,off+t,none⟩=false) (h1c:∀ v∈cs,v.oneCell'=true) :
    Calls Tryz.prog 58 #[.slice (some ⟨b,off,none⟩) n c,.int .i64 i,.int .i64 j] w fun e w'=>e=.returned (.slice (some ⟨b,off,none⟩) (n - (j - i)) c)∧∃ (zz:List Value) (w0:World),zz.length=(j - i) * 2∧w0.heap=w.heap∧w0.os=w.os∧w0.tape=w.tape∧w0.output=w.output∧w'=(w0.setCells b (off+i * 2) (cs.drop (j * 2))).setCells b (off+(n - (j - i)) * 2) zz:=by
  have mixed:Tryz.prog.follows .mixedOrders=true:=by kernel_rfl
  have tT:Tryz.prog.underlying 75=some (.slice 51):=Tryz.underlying75
  obtain ⟨ie,hie,hsz⟩:∃ i0,Tryz.prog.info? 51=some i0∧i0.size=2:=⟨_,rfl,rfl⟩
  obtain ⟨z,hz,hzs,hz1⟩:∃ z,(∀ w,(zeroValue 51).run Tryz.prog w=.ok z w)∧z.cells.size=2∧∀ v∈z.cells.toList,v.oneCell'=true:=⟨_,fun _=>rfl,rfl,by decide⟩
  obtain ⟨news,hnews⟩:∃ news,news=cs.drop (j * 2):=⟨_,rfl⟩
  have hnl:news.length=(n - j) * 2:=by rw [hnews,List.length_drop,hcl]; omega
  have hsome:∀ t,t < n * 2→(w.cell? ⟨b,off+t,none⟩).isSome=true:=fun t ht=>by rw [hcs t _ (List.getElem?_eq_getElem (by omega))]; rfl
  obtain ⟨A0,hA,hsrc⟩:∃ A0:Addr,(if c=j then some (⟨b,off,none⟩:Addr) else some ⟨b,off+j * 2,none⟩)=some A0∧Hid (∀ t u,news[t]? = some u→w.drew.cell? (A0.add t)=some u):=by
    by_cases h:c=j
    · refine ⟨⟨b,off,none⟩,by simp [h],fun t u hu=>?_⟩
      have h0:news.length=0:=by rw [hnl]; omega
      rw [List.length_eq_zero_iff.1 h0] at hu
      simp at hu
    · refine ⟨⟨b,off+j * 2,none⟩,by simp [h],fun t u hu=>?_⟩
      rw [hnews,List.getElem?_drop] at hu
      rw [Addr.add_lit,Nat.add_assoc]
      exact hcs _ u (by simpa using hu)
  have s1:Hid (news.length=(n - j) * 2):=hnl
  have s2:Hid (∀ u∈news,u.oneCell'=true):=fun u hu=>h1c u (by rw [hnews] at hu; exact List.mem_of_mem_drop hu)
  have s3:Hid (∀ t,t < news.length→(w.drew.cell? ⟨b,off+i * 2+t,none⟩).isSome=true∧w.drew.frozen? ⟨b,off+i * 2+t,none⟩=false):=by
    intro t ht
    rw [hnl] at ht
    rw [Nat.add_assoc]
    exact ⟨hsome _ (by omega),hfz _ (by omega)⟩
  obtain ⟨W1,hW1⟩:∃ W1,W1=w.drew.setCells b (off+i * 2) news:=⟨_,rfl⟩
  have hcl2:∀ ty,(Builtin.clear_ #[75] ty #[.slice (some ⟨b,off+(i+(n - j)) * 2,none⟩) (n - (i+(n - j))) (c - (i+(n - j)))]).run Tryz.prog W1=.ok (.tuple #[]) (W1.setCells b (off+(i+(n - j)) * 2) (Builtin.zeroCells z.cells (n - (i+(n - j)))).toList) :=
    fun ty=>run_clear_cells W1 _ _ ty _ tT hz hz1 b _ _ _ (by omega) (fun t ht=>by
      rw [hW1,Nat.add_assoc]
      exact isSome_cells _ _ _ _ (fun t ht=>(s3.out t ht).1) _ (hsome _ (by rw [hzs] at ht; omega))) (fun t ht=>by rw [hW1,World.frozen?_setCells,Nat.add_assoc]; exact hfz _ (by rw [hzs] at ht; omega))
  obtain ⟨zz,hzz⟩:∃ zz,(Builtin.zeroCells z.cells (n - (i+(n - j)))).toList=zz:=⟨_,rfl⟩
  have hzl0:zz.length=(j - i) * 2:=by
    rw [← hzz,show j - i=n - (i+(n - j)) by omega]
    simp [Builtin.zeroCells,hzs]
  have hzl:Hid (zz.length=(j - i) * 2):=hzl0
  rw [hzz] at hcl2
  have hW:Hid (W1=w.drew.setCells b (off+i * 2) news):=hW1
  have hic:i≤c:=by omega
  have hjc:j≤c:=by omega
  have hN:Hid (news=cs.drop (j * 2)):=hnews
  clear hW1 hnews hnl hcs hsome hfz h1c hz hzs hz1 hzz hzl0
  go_enter Tryz.func58,Tryz.ntmps58
  go_wp2_with fail
  go_region_law_o (refine step_append_room rfl (.tmp 22) (.tmp 25) 75 rfl 51 ie 2 tT hie hsz b off i c (by simp [Act.eval,Act.put]) A0 (n - j) (c - j) news (by simp [Act.eval,Act.put]) s1.out hsrc.out s2.out (by omega) s3.out ?_; rw [← hW.out])
  go_wp2
  go_ret
  refine ⟨by rw [show n - (j - i)=i+(n - j) by omega]; rfl,zz,w.drew,hzl.out,rfl,rfl,rfl,rfl,?_⟩
  rw [← hN.out,← hW.out,show n - (j - i)=i+(n - j) by omega]
theorem b_Delete_58 {α:Type} {enc:α→List Dat} {κ:TypeId} {xs:List α} {i j:Int} (h:0≤i∧i≤j∧j≤(xs.length:Int)):ACall Tryz.prog 58 [.own κ 2 (xs.map enc),.d (.v (.int .i64 i)),.d (.v (.int .i64 j))] [] (.own κ 2 ((xs.take i.toNat++xs.drop j.toNat).map enc)) []:=by
  obtain ⟨a,rfl⟩:∃ a:Nat,i=a:=⟨i.toNat,by omega⟩
  obtain ⟨b,rfl⟩:∃ b:Nat,j=b:=⟨j.toNat,by omega⟩
  rw [List.map_append,List.map_take,List.map_drop]
  exact ACall.delete (κ:=κ) (sz:=2) (es:=xs.map enc) ⟨_,Tryz.func58,by kernel_rfl,by kernel_rfl⟩ a b (by omega) (by simp; omega)
    (fun u w ⟨q,n,c,hu,hn,hc⟩ e=>by subst hu; subst e; exact del_same_58 n a q c w hc (by rw [hn]; simp; omega))
    (fun b' off n c w cs _ h1 h2 h3 h4 h5 h6 h7=>del_walk_58 b' off n c a b w cs h1 h2 h3 h4 h5 h6 h7)
end Go.Vm.PreG
