/-
  archive.Load: slices.Insert at the world's level.
-/
import Derived.Test.YtflaiaeofndgmaaGreatDoorProg
import Derived.WalkKit
import Derived.Deep.RegionLaw
import Derived.Deep.RegionLawGrows
import Derived.Lib.Walk
import Derived.Lib.SliceRun
import Derived.Shelf.Spec.SlicesInsert
import Derived.Shelf.Spec.SlicesInsertGrow
import Derived.Test.YtflaiaeofndgmaaGreatDoorVmD
import Derived.Test.YtflaiaeofndgmaaGreatDoorArMa
namespace Go.Vm.ArzG
open Go.Proofs Go.RowKit
set_option maxHeartbeats 4000000 in
set_option maxRecDepth 1000000 in
theorem insA_36 (b off n c vb voff vc:Nat) (w:World) (vs:List Value) (hvl:vs.length=1 * 1) (hroom:n+1≤c)
  (hvs:∀ t v,vs[t]? = some v→w.cell? ⟨vb,voff+t,none⟩=some v) (h1v:∀ v∈vs,v.oneCell'=true)
  (hsp:∀ j,j < vs.length→(w.cell? ⟨b,off+n+j,none⟩).isSome=true∧w.frozen? ⟨b,off+n+j,none⟩=false) :
  Calls Tryz.prog 36 #[.slice (some ⟨b,off,none⟩) n c,.int .i64 n,.slice (some ⟨vb,voff,none⟩) 1 vc] w fun e w'=>e=.returned (.slice (some ⟨b,off,none⟩) (n+1) c)∧w'=w.setCells b (off+n) vs:=by
 have mixed:Tryz.prog.follows .mixedOrders=true:=by kernel_rfl
 have tT:Tryz.prog.underlying 24=some (.slice 9):=Tryz.underlying24
 obtain ⟨ie,hie,hsz⟩:∃ i0,Tryz.prog.info? 9=some i0∧i0.size=1:=⟨_,rfl,rfl⟩
 have s1:Hid (vs.length=1 * 1):=hvl
 have s2:Hid (∀ u∈vs,u.oneCell'=true):=h1v
 have s3:Hid (∀ t u,vs[t]? = some u→w.cell? ((⟨vb,voff,none⟩:Addr).add t)=some u):=fun t u h=>by rw [Addr.add_lit]; exact hvs t u h
 have s4:Hid (∀ j,j < vs.length→(w.cell? ⟨b,off+n+j,none⟩).isSome=true∧w.frozen? ⟨b,off+n+j,none⟩=false):=hsp
 obtain ⟨W1,hW1⟩:∃ W1,W1=w.setCells b (off+n) vs:=⟨_,rfl⟩
 have happ:∀ ty,(Builtin.append_ #[24,24] ty #[.slice (some ⟨b,off,none⟩) n c,.slice (some ⟨vb,voff,none⟩) 1 vc]).run Tryz.prog w=.ok (.slice (some ⟨b,off,none⟩) (n+1) c) W1:=fun ty=>by
  have h:=run_append_room_cells (P:=Tryz.prog) w 24 ty 9 ie tT hie b off n c ⟨vb,voff,none⟩ 1 vc vs (by rw [hsz]; exact hvl) s3.out h1v hroom (by rw [hsz]; simp only [Nat.mul_one]; exact fun j hj=>(hsp j hj).1) (by rw [hsz]; simp only [Nat.mul_one]; exact fun j hj=>(hsp j hj).2)
  rw [hsz] at h; simp only [Nat.mul_one] at h
  rw [hW1]
  exact h
 have hW:Hid (W1=w.setCells b (off+n) vs):=hW1
 have hnc:n≤c:=by omega
 clear hW1 hvl h1v hvs hsp
 go_enter Tryz.func36,Tryz.ntmps36
 go_wp2_with (at_builtin; refine Lib.wpList_append_run _ rfl _ _ _ _ rfl _ _ rfl rfl _ _ (happ _) ?_)
 go_wp2
 go_ret
 exact ⟨rfl,hW.out⟩
set_option maxHeartbeats 4000000 in
set_option maxRecDepth 1000000 in
theorem insB_36 (base:Option Addr) (n c vb voff vc:Nat) (w:World) (cs vs:List Value) (hvl:vs.length=1 * 1) (hnc:n≤c) (hroom:c < n+1) (hn:n≤4294967296)
  (hold:∀ w':World,w'.heap=w.heap→(Builtin.firstCells 1 n (.slice base n c)).run Tryz.prog w'=.ok cs.toArray w')
  (hvs:∀ t v,vs[t]? = some v→w.cell? ⟨vb,voff+t,none⟩=some v) (h1v:∀ v∈vs,v.oneCell'=true) :
  Calls Tryz.prog 36 #[.slice base n c,.int .i64 n,.slice (some ⟨vb,voff,none⟩) 1 vc] w fun e w'=>∃ (G:Nat) (zz:Array Value),n+1≤G∧zz.size=(G - (n+1)) * 1∧e=.returned (.slice (some ⟨w.heap.size,0,none⟩) (n+1) G)∧w'=w.drew.alloc (.cells ((cs++vs).toArray++zz) 9):=by
 have mixed:Tryz.prog.follows .mixedOrders=true:=by kernel_rfl
 have tT:Tryz.prog.underlying 24=some (.slice 9):=Tryz.underlying24
 obtain ⟨ie,z,hie,hsz,hbz,hzz,hzs⟩:∃ i0 z,Tryz.prog.info? 9=some i0∧i0.size=1∧i0.bytes≤1000∧i0.zero=some z∧z.cells.size=1:=⟨_,_,rfl,rfl,by decide,rfl,rfl⟩
 have hsrc:Src Tryz.prog w 24 ie.size (.slice (some ⟨vb,voff,none⟩) 1 vc) 1 vs:=⟨.inl ⟨_,tT⟩,rfl,fun w' hw'=>run_firstCells_some (P:=Tryz.prog) w' ie.size 1 ⟨vb,voff,none⟩ 1 vc vs (by rw [hsz]; exact hvl) (fun t u h=>by
  rw [Addr.add_lit]
  have:=hvs t u h
  simpa [World.cell?,hw'] using this),by rw [hsz]; exact hvl,h1v⟩
 obtain ⟨G,hG⟩:∃ G,G=grownCap w (n+1) c 9:=⟨_,rfl⟩
 have hGn:n+1≤G:=by rw [hG]; exact grownCap_ge w _ _ _
 have hb:(n+1) * ie.bytes≤140737488355328:=by
  have:(n+1) * ie.bytes≤(n+1) * 1000:=Nat.mul_le_mul_left _ hbz
  omega
 obtain ⟨zz,hz2⟩:∃ zz,zz=Builtin.zeroCells z.cells (G - (n+1)):=⟨_,rfl⟩
 have hzzs:zz.size=(G - (n+1)) * 1:=by rw [hz2]; simp [Builtin.zeroCells,hzs]
 obtain ⟨W1,hW1⟩:∃ W1,W1=w.drew.alloc (.cells ((cs++vs).toArray++zz) 9):=⟨_,rfl⟩
 have happ:∀ ty,(Builtin.append_ #[24,24] ty #[.slice base n c,.slice (some ⟨vb,voff,none⟩) 1 vc]).run Tryz.prog w=.ok (.slice (some ⟨w.heap.size,0,none⟩) (n+1) G) W1:=fun ty=>by
  have h:=run_append_grow' (P:=Tryz.prog) (w:=w) (ty:=ty) 24 24 9 ie z tT hie hzz base n c cs (by rw [hsz]; exact hold) hsrc hroom (by omega) hb
  rw [hW1,hz2,hG,show (cs++vs).toArray=cs.toArray++vs.toArray by simp]
  exact h
 have hW:Hid (W1=w.drew.alloc (.cells ((cs++vs).toArray++zz) 9)):=hW1
 have hZ:Hid (zz.size=(G - (n+1)) * 1):=hzzs
 clear hW1 hvl h1v hvs hold hsrc hz2 hzzs hb hG hie hsz hbz hzz hzs
 go_enter Tryz.func36,Tryz.ntmps36
 go_wp2_with (at_builtin; refine Lib.wpList_append_run _ rfl _ _ _ _ rfl _ _ rfl rfl _ _ (happ _) ?_)
 go_wp2
 go_ret
 exact ⟨G,zz,hGn,hZ.out,rfl,hW.out⟩
set_option maxHeartbeats 4000000 in
set_option maxRecDepth 1000000 in
theorem insD_36 (b off n c i vb voff vc:Nat) (w:World) (cs vs:List Value) (hcl:cs.length=n) (hvl:vs.length=1 * 1) (hi:i < n) (hroom:n+1≤c) (hc63:n≤4294967296) (hvb:vb≠b)
  (hcs:∀ t v,cs[t]? = some v→w.cell? ⟨b,off+t,none⟩=some v) (hsp:∀ j,j < (n+1)→(w.cell? ⟨b,off+j,none⟩).isSome=true) (hfz:∀ j,j < (n+1)→w.frozen? ⟨b,off+j,none⟩=false)
  (hvs:∀ t v,vs[t]? = some v→w.cell? ⟨vb,voff+t,none⟩=some v) (h1c:∀ v∈cs,v.oneCell'=true) (h1v:∀ v∈vs,v.oneCell'=true)
  (tA tB:TypeId) (kA kB:Nat) (hsa:w.shape? vb=some (tA,kA)) (hsb:w.shape? b=some (tB,kB)) (hkB:kB≠0) (hfa:w.frozen? ⟨vb,voff,none⟩=false) (hfe:w.frozen? ⟨vb,kA,none⟩=false) :
  Calls Tryz.prog 36 #[.slice (some ⟨b,off,none⟩) n c,.int .i64 i,.slice (some ⟨vb,voff,none⟩) 1 vc] w fun e w'=>e=.returned (.slice (some ⟨b,off,none⟩) (n+1) c)∧w'=(w.drew.setCells b (off+(i+1)) (cs.drop (i))).setCells b (off+i) vs:=by
 have mixed:Tryz.prog.follows .mixedOrders=true:=by kernel_rfl
 have tT:Tryz.prog.underlying 24=some (.slice 9):=Tryz.underlying24
 have hsz:(Tryz.prog.info? 9).map (·.size)=some 1:=rfl
 have hov:∀ lb cb,(callFunc 55 #[.slice (some ⟨vb,voff,none⟩) 1 vc,.slice (some ⟨b,off+(i+1),none⟩) lb cb]).run Tryz.prog w=.ok (.value (.bool false)) w:=fun lb cb=>by
  rw [run_callFunc_extern Tryz.func55 (by kernel_rfl) (by kernel_rfl) (by kernel_rfl) (e:=Extern.SlicesOverlaps.overlaps #[24,24] #[4]) (by kernel_rfl),
   Lib.run_overlaps_apart w 24 4 9 tT 1 Tryz.sizeOf9 ⟨vb,voff,none⟩ ⟨b,off+(i+1),none⟩ 1 vc lb cb hvb tA tB kA kB hsa hsb hkB hfa hfe]
  rfl
 have hdl:(cs.drop (i)).length=(n - i) * 1:=by rw [List.length_drop,hcl]; omega
 have hw1:IntKind.i64.wrap ((i:Int)+1)=(i:Int)+1:=by rw [IntKind.wrap_i64]; omega
 have hw2:IntKind.i64.wrap ((n:Int)+1)=(n:Int)+1:=by rw [IntKind.wrap_i64]; omega
 have hb1:(0:Int)≤(i:Int)+1:=by omega
 have hin:i≤n:=by omega
 have htn:((i:Int)+1).toNat=i+1:=by omega
 have htn2:((n:Int)+1).toNat=n+1:=by omega
 have hb2:¬ (c=i+1):=by omega
 have hb3:(i:Int)≤(n:Int)+1:=by omega
 have hb4:¬ (c=i):=by omega
 have hz2:¬ ((i:Int)=(n:Int)):=by omega
 have hz3:¬ ((c:Int) < (n:Int)+1):=by omega
 have hcp1:∀ ty dc sc,(Builtin.copy_ #[24,24] ty #[.slice (some ⟨b,off+(i+1),none⟩) (n - i) dc,.slice (some ⟨b,off+i,none⟩) (n+1 - i) sc]).run Tryz.prog w.drew=.ok (goInt (n - i:Nat)) (w.drew.setCells b (off+(i+1)) (cs.drop (i))):=fun ty dc sc =>
  run_copy_k w.drew _ _ ty 9 1 b (off+(i+1)) (n - i) dc ⟨b,off+i,none⟩ (n+1 - i) sc (n - i) (by omega) (cs.drop (i)) tT hsz hdl
   (fun j v hj=>by rw [Addr.add_lit,Nat.add_assoc]; exact hcs (i+j) v (by rwa [List.getElem?_drop] at hj))
   (fun j hj=>by rw [Nat.add_assoc]; exact hsp _ (by omega)) (fun j hj=>by rw [Nat.add_assoc]; exact hfz _ (by omega)) (fun v hv=>h1c v (List.mem_of_mem_drop hv))
 obtain ⟨W1,hW1⟩:∃ W1,W1=w.drew.setCells b (off+(i+1)) (cs.drop (i)):=⟨_,rfl⟩
 have hsp1:∀ k,k < (n+1)→(W1.cell? ⟨b,off+k,none⟩).isSome=true:=fun k hk=>by
  rw [hW1]
  exact isSome_cells b _ _ _ (fun j hj=>by rw [Nat.add_assoc]; exact hsp _ (by omega)) _ (hsp k hk)
 have hcp2:∀ (W:World),(∀ x,W.cell? x=W1.cell? x)→(∀ x,W.frozen? x=W1.frozen? x)→∀ ty dc,(Builtin.copy_ #[24,24] ty #[.slice (some ⟨b,off+i,none⟩) (n+1 - i) dc,.slice (some ⟨vb,voff,none⟩) 1 vc]).run Tryz.prog W=.ok (goInt (1:Nat)) (W.setCells b (off+i) vs):=fun W hWc hWf ty dc =>
  run_copy_k W _ _ ty 9 1 b (off+i) (n+1 - i) dc ⟨vb,voff,none⟩ 1 vc 1 (by omega) vs tT hsz hvl
   (fun j v hj=>by
    rw [Addr.add_lit,hWc,hW1,World.cell?_setCells_out b _ _ _ _ (fun h _=>absurd h hvb)]
    exact hvs j v hj)
   (fun j hj=>by rw [hWc,Nat.add_assoc]; exact hsp1 _ (by omega)) (fun j hj=>by rw [hWf,hW1,World.frozen?_setCells,Nat.add_assoc]; exact hfz _ (by omega)) h1v
 rw [← hW1] at hcp1
 have hW:Hid (W1=w.drew.setCells b (off+(i+1)) (cs.drop (i))):=hW1
 clear hdl hsp1 hcs hsp hfz hvs h1c h1v hsa hsb hkB hfa hfe hcl hvl
 go_enter Tryz.func36,Tryz.ntmps36
 go_wp2_with (simp only [hov])
 go_region_law_o (refine step_copy_runI rfl _ _ 24 24 rfl _ _ (by simp [Act.eval,Act.put]) (by simp [Act.eval,Act.put]) (hcp1 _ _ _) ?_)
 go_wp2_with (at_builtin; refine wpList_copy_runI _ rfl _ _ 24 24 rfl _ _ rfl rfl (hcp2 _ (fun _=>rfl) (fun _=>rfl) _ _) ?_)
 go_ret
 first | exact ⟨rfl,rfl⟩ | exact ⟨rfl,by rw [hW1]⟩ | exact ⟨rfl,by rw [hW.out]⟩
set_option maxHeartbeats 4000000 in
set_option maxRecDepth 1000000 in
theorem insC_36 (b off n c i vb voff vc:Nat) (w:World) (cs vs:List Value) (hcl:cs.length=n) (hvl:vs.length=1 * 1) (hi:i < n) (hnc:n≤c) (hroom:c < n+1) (hc63:n≤4294967296) (hbw:b < w.heap.size) (hvw:vb < w.heap.size)
    (hcs:∀ t v,cs[t]? = some v→w.cell? ⟨b,off+t,none⟩=some v)
    (hvs:∀ t v,vs[t]? = some v→w.cell? ⟨vb,voff+t,none⟩=some v) (h1c:∀ v∈cs,v.oneCell'=true) (h1v:∀ v∈vs,v.oneCell'=true) :
    Calls Tryz.prog 36 #[.slice (some ⟨b,off,none⟩) n c,.int .i64 i,.slice (some ⟨vb,voff,none⟩) 1 vc] w fun e w'=>∃ (G:Nat) (ROW:Array Value),n+1≤G∧ROW.size=G∧(∀ t,t < i→ROW[t]? = cs[t]?)∧e=.returned (.slice (some ⟨w.heap.size,0,none⟩) (n+1) G) ∧
      w'=(((w.alloc (.cells ROW 9)).drew.setCells w.heap.size (i) vs).drew).setCells w.heap.size ((i+1)) (cs.drop (i)):=by
  have mixed:Tryz.prog.follows .mixedOrders=true:=by kernel_rfl
  have tT:Tryz.prog.underlying 24=some (.slice 9):=Tryz.underlying24
  have hsz:(Tryz.prog.info? 9).map (·.size)=some 1:=rfl
  obtain ⟨ie,z,hie,hsz5,hbz,hzz,hzs⟩:∃ i0 z,Tryz.prog.info? 9=some i0∧i0.size=1∧i0.bytes≤1000∧i0.zero=some z∧z.cells.size=1:=⟨_,_,rfl,rfl,by decide,rfl,rfl⟩
  have hkk:(n:Int)+1 - (i:Int)=((n+1 - i:Nat):Int):=by omega
  have hik:i+(n+1 - i)=n+1:=by omega
  have htl:(cs.take (i)).length=i:=by rw [List.length_take,hcl]; omega
  have hold:(Builtin.firstCells ie.size i (.slice (some ⟨b,off,none⟩) i c)).run Tryz.prog w.drew=.ok (cs.take (i)).toArray w.drew :=
    run_firstCells_some (P:=Tryz.prog) w.drew ie.size i ⟨b,off,none⟩ i c (cs.take (i)) (by rw [hsz5]; simp only [Nat.mul_one]; exact htl) (fun t u h=>by
      rw [Addr.add_lit]
      rw [List.getElem?_take] at h
      split at h
      · exact hcs t u h
      · cases h)
  have hb:(n+1) * ie.bytes≤140737488355328:=by
    have:(n+1) * ie.bytes≤(n+1) * 1000:=Nat.mul_le_mul_left _ hbz
    omega
  have hb':(n+1 - i) * ie.bytes≤281474976710656:=by
    have:(n+1 - i) * ie.bytes≤(n+1) * ie.bytes:=Nat.mul_le_mul_right _ (by omega)
    omega
  have hrz:∀ ty,(Builtin.append_ #[24,3] ty #[.slice (some ⟨b,off,none⟩) i c,.int .i64 ((n:Int)+1 - (i:Int))]).run Tryz.prog w =
      .ok (.slice (some ⟨w.heap.size,0,none⟩) (n+1) (grownCap w (n+1) c 9)) (w.drew.alloc (.cells ((cs.take (i)).toArray++Builtin.zeroCells z.cells (n+1 - i)++Builtin.zeroCells z.cells (grownCap w (n+1) c 9 - (n+1))) 9)):=fun ty=>by
    have h:=Lib.run_append_grow_zeros w 24 3 ty 9 ie z .i64 .i64 tT Tryz.underlying3 hie hzz (some ⟨b,off,none⟩) i c (cs.take (i)) hold (n+1 - i) (by omega) (by omega) (by omega) (by omega) hb' (by rw [hik]; exact growslice_fits hroom hb)
    rw [hik] at h
    rw [hkk]
    exact h
  obtain ⟨G,hG⟩:∃ G,G=grownCap w (n+1) c 9:=⟨_,rfl⟩
  have hGn:n+1≤G:=by rw [hG]; exact grownCap_ge w _ _ _
  obtain ⟨ROW,hROW⟩:∃ ROW:Array Value,ROW=(cs.take (i)).toArray++Builtin.zeroCells z.cells (n+1 - i)++Builtin.zeroCells z.cells (G - (n+1)):=⟨_,rfl⟩
  rw [← hG] at hrz
  rw [← hROW] at hrz
  have hRs:ROW.size=G:=by
    rw [hROW]
    simp only [Array.size_append,List.size_toArray,htl,Builtin.zeroCells,Array.size_map,Array.size_range,hzs]
    omega
  have hRt:∀ t,t < i→ROW[t]? = cs[t]? := fun t ht=>by
    rw [hROW,Array.append_assoc,Array.getElem?_append_left (by simpa [htl] using ht)]
    simp [List.getElem?_take,ht]
  obtain ⟨W1,hW1⟩:∃ W1,W1=w.drew.alloc (.cells ROW 9):=⟨_,rfl⟩
  rw [← hW1] at hrz
  have hN:∀ j,j < G→(W1.cell? ⟨w.heap.size,j,none⟩).isSome=true:=fun j hj=>by
    rw [hW1,World.cell?_alloc_at (w:=w.drew) ROW _ w.heap.size j rfl,Array.getElem?_eq_getElem (by omega)]; rfl
  have hNf:∀ j,W1.frozen? ⟨w.heap.size,j,none⟩=false:=fun j=>by rw [hW1]; exact World.frozen?_alloc_at (w:=w.drew) ROW _ w.heap.size j rfl
  have hOb:∀ j v,w.cell? ⟨b,j,none⟩=some v→W1.cell? ⟨b,j,none⟩=some v:=fun j v h=>by rw [hW1,World.cell?_alloc_past (w:=w.drew) _ b j hbw]; exact h
  have hOv:∀ j v,w.cell? ⟨vb,j,none⟩=some v→W1.cell? ⟨vb,j,none⟩=some v:=fun j v h=>by rw [hW1,World.cell?_alloc_past (w:=w.drew) _ vb j hvw]; exact h
  have hcpA:∀ (W:World),(∀ x,W.cell? x=W1.cell? x)→(∀ x,W.frozen? x=W1.frozen? x)→∀ ty dc,(Builtin.copy_ #[24,24] ty #[.slice (some ⟨w.heap.size,i,none⟩) (n+1 - i) dc,.slice (some ⟨vb,voff,none⟩) 1 vc]).run Tryz.prog W=.ok (goInt (1:Nat)) (W.setCells w.heap.size (i) vs):=fun W hWc hWf ty dc =>
    run_copy_k W _ _ ty 9 1 w.heap.size (i) (n+1 - i) dc ⟨vb,voff,none⟩ 1 vc 1 (by omega) vs tT hsz hvl
      (fun j v hj=>by rw [Addr.add_lit,hWc]; exact hOv _ v (hvs j v hj))
      (fun j hj=>by rw [hWc]; exact hN _ (by omega)) (fun j hj=>by rw [hWf]; exact hNf _) h1v
  have hG63:G≤9223372036854775807:=by
    have:=grownCap_le_maxLen w (n+1) c 9 (by unfold maxLen; omega)
    rw [← hG] at this
    unfold maxLen at this
    omega
  have hGi:¬ (G=i):=by omega
  have hGim:¬ (G=i+1):=by omega
  have hci:¬ (c=i):=by omega
  have hbN:b≠w.heap.size:=by omega
  have hdl:(cs.drop (i)).length=(n - i) * 1:=by rw [List.length_drop,hcl]; omega
  have hcpB:∀ (W:World),(∀ x,W.cell? x=(W1.setCells w.heap.size (i) vs).cell? x)→(∀ x,W.frozen? x=(W1.setCells w.heap.size (i) vs).frozen? x)→∀ ty dc sc,(Builtin.copy_ #[24,24] ty #[.slice (some ⟨w.heap.size,(i+1),none⟩) (n - i) dc,.slice (some ⟨b,off+i,none⟩) (n - i) sc]).run Tryz.prog W=.ok (goInt (n - i:Nat)) (W.setCells w.heap.size ((i+1)) (cs.drop (i))):=fun W hWc hWf ty dc sc =>
    run_copy_k W _ _ ty 9 1 w.heap.size ((i+1)) (n - i) dc ⟨b,off+i,none⟩ (n - i) sc (n - i) (by omega) (cs.drop (i)) tT hsz hdl
      (fun j v hj=>by
        rw [Addr.add_lit,hWc,World.cell?_setCells_out _ _ _ _ _ (fun h _=>absurd h hbN),Nat.add_assoc]
        exact hOb _ v (hcs (i+j) v (by rwa [List.getElem?_drop] at hj)))
      (fun j hj=>by rw [hWc]; exact isSome_cells _ _ _ _ (fun t ht=>hN _ (by omega)) _ (hN _ (by omega)))
      (fun j hj=>by rw [hWf,World.frozen?_setCells]; exact hNf _) (fun v hv=>h1c v (List.mem_of_mem_drop hv))
  subst hW1
  have hE1:∀ x,((w.alloc (.cells ROW 9)).drew).cell? x=(w.drew.alloc (.cells ROW 9)).cell? x:=fun x=>rfl
  have hE2:∀ x,((w.alloc (.cells ROW 9)).drew).frozen? x=(w.drew.alloc (.cells ROW 9)).frozen? x:=fun x=>rfl
  have hF1:∀ x,(((w.alloc (.cells ROW 9)).drew.setCells w.heap.size (i) vs).drew).cell? x=((w.drew.alloc (.cells ROW 9)).setCells w.heap.size (i) vs).cell? x:=fun x=>rfl
  have hF2:∀ x,(((w.alloc (.cells ROW 9)).drew.setCells w.heap.size (i) vs).drew).frozen? x=((w.drew.alloc (.cells ROW 9)).setCells w.heap.size (i) vs).frozen? x:=fun x=>rfl
  have hw1:IntKind.i64.wrap ((i:Int)+1)=(i:Int)+1:=by rw [IntKind.wrap_i64]; omega
  have hw2:IntKind.i64.wrap ((n:Int)+1)=(n:Int)+1:=by rw [IntKind.wrap_i64]; omega
  have hw3:IntKind.i64.wrap ((n:Int)+1 - (i:Int))=(n:Int)+1 - (i:Int):=by rw [IntKind.wrap_i64]; omega
  have hb1:(0:Int)≤(i:Int)+1:=by omega
  have hin:i≤n:=by omega
  have htn:((i:Int)+1).toNat=i+1:=by omega
  have hb3:(i:Int)≤(n:Int):=by omega
  have hz2:¬ ((i:Int)=(n:Int)):=by omega
  have hz3:(c:Int) < (n:Int)+1:=by omega
  have hZ1:Hid (ROW.size=G):=hRs
  have hZ2:Hid (∀ t,t < i→ROW[t]? = cs[t]?):=hRt
  clear hkk hik hold hROW hG hRs hRt hie hsz5 hbz hzz hzs hb hb' htl hN hNf hOb hOv hcs hvs h1c h1v hcl hvl hdl
  go_enter Tryz.func36,Tryz.ntmps36
  go_wp2_with (first
    | (at_builtin; refine Lib.wpList_append_run _ rfl _ _ _ _ rfl _ _ rfl rfl _ _ (hrz _) ?_)
    | (at_builtin; refine wpList_copy_runI _ rfl _ _ 24 24 rfl _ _ rfl rfl (hcpA _ hE1 hE2 _ _) ?_)
    | (at_builtin; refine wpList_copy_runI _ rfl _ _ 24 24 rfl _ _ rfl rfl (hcpB _ (fun _=>rfl) (fun _=>rfl) _ _ _) ?_))
  go_region_law_o (refine step_copy_runI rfl _ _ 24 24 rfl (.slice (some ⟨w.heap.size,(i+1),none⟩) (n - i) (G - (i+1))) (.slice (some ⟨b,off+i,none⟩) (n - i) (c - i)) (by simp [Act.eval,Act.put]) (by simp [Act.eval,Act.put]) (hcpB _ hF1 hF2 3 (G - (i+1)) (c - i)) ?_)
  go_wp2
  go_ret
  exact ⟨G,ROW,hGn,hZ1.out,hZ2.out,rfl,rfl⟩
theorem roads_36:InsRoads Tryz.prog 36 9 1 where
 A:=fun b off n c vb voff vc w vs h1 h2 h3 h4 h5=>by simpa only [Nat.mul_one] using insA_36 b off n c vb voff vc w vs h1 h2 h3 h4 (by simpa only [Nat.mul_one] using h5)
 B:=fun base n c vb voff vc w cs vs h1 h2 h3 h4 h5 h6 h7=>insB_36 base n c vb voff vc w cs vs h1 h2 h3 h4 h5 h6 h7
 C:=fun b off n c i vb voff vc w cs vs h1 h2 h3 h4 h5 h6 h7 h8 h9 h10 h11 h12=>by simpa only [Nat.mul_one] using insC_36 b off n c i vb voff vc w cs vs (by simpa only [Nat.mul_one] using h1) h2 h3 h4 h5 h6 h7 h8 h9 h10 h11 h12
 D:=fun b off n c i vb voff vc w cs vs h1 h2 h3 h4 h5 h6 h7 h8 h9 h10 h11 h12 tA tB kA kB g1 g2 g3 g4 g5=>by simpa only [Nat.mul_one] using insD_36 b off n c i vb voff vc w cs vs (by simpa only [Nat.mul_one] using h1) h2 h3 h4 h5 h6 h7 (by simpa only [Nat.mul_one] using h8) (by simpa only [Nat.mul_one] using h9) h10 h11 h12 tA tB kA kB g1 g2 g3 g4 g5
section
variable {P:Program} {S:Nat→Prop} {w:World}
/-- slices.Insert of one element,at the world's level. -/
theorem insert_world {k E K:Nat} (hE40:E < 1099511627776) (hr:InsRoads P k E K) (hnil:∀ w:World,(Builtin.firstCells K 0 (.slice none 0 0)).run P w=.ok #[] w) {κ3:TypeId} {es:List (List Dat)} {v:List Dat} {u v3:Value} {i:Nat} (hi:i≤es.length) (hlen:es.length≤4294967295) (hK:0 < K) (hκ3:1099511627776≤κ3)
  (hown:OwnAt S w u E K es) (ho3:OwnAt S w v3 κ3 K [v]) (hd3:∀ b,Go.Vm.blk v3=some b→Go.Vm.blk u≠some b) (hno:∀ b,Go.Vm.blk u=some b→¬ S b) (hst:∀ b,S b→b < w.heap.size) :
  Calls P k #[u,.int .i64 i,v3] w fun e w'=>∃ u',e=.returned u'∧InsEnd S w u w' u' E K (es.take i++[v]++es.drop i):=by
 obtain ⟨vb,voff,vc,arr3,E3,rfl,hsz3,hvw,⟨fz3,hb3⟩,hes3,hsh3,hfz3⟩:=ins_third ho3 hκ3
 have hvb:Go.Vm.blk u≠some vb:=hd3 vb rfl
 have hvl:((arr3.toList.drop voff).take (1 * K)).length=1 * K:=by simp; omega
 have hvs:=row_cells (off:=voff) hb3 (1 * K)
 have h1v:∀ x∈(arr3.toList.drop voff).take (1 * K),x.oneCell'=true:=ones_of (es:=[v]) hes3
 have done:∀ {e w' u'},e=Ending.returned u'→InsEnd S w u w' u' E K (es.take i++[v]++es.drop i)→∃ u',e=.returned u'∧InsEnd S w u w' u' E K (es.take i++[v]++es.drop i):=fun he h=>⟨_,he,h⟩
 rcases hown with ⟨rfl,rfl⟩ | ⟨b,off,c,arr,E0,fz,rfl,hc,hroom,hfz,hb,hκ,hes⟩
 ·obtain rfl:i=0:=by simpa using hi
  refine (hr.B none 0 0 vb voff vc w [] _ hvl (by omega) (by omega) (by omega) (fun w' _=>hnil w') hvs h1v).mono ?_
  rintro e w' ⟨G,zz,hG,hz,rfl,rfl⟩
  have h0:=ins_endB (E:=E) hE40 (u:=.slice none 0 0) (es:=[]) (off:=0) (arr:=#[]) (n:=0) rfl (by simp) (by simp [REs]) hes3 hst hsz3 hG hz
  have e0:((#[]:Array Value).toList.drop 0).take (0 * K)=[]:=by simp
  rw [e0] at h0
  exact done rfl h0
 ·generalize hn:es.length=n at *
  have hnc:n * K≤c * K:=Nat.mul_le_mul_right _ hc
  have hcl:((arr.toList.drop off).take (n * K)).length=n * K:=by simp; omega
  have hcs:=row_cells (off:=off) hb (n * K)
  have h1c:∀ x∈(arr.toList.drop off).take (n * K),x.oneCell'=true:=by rw [← hn]; exact ones_of hes
  have hS:¬ S b:=hno b rfl
  have hvb':vb≠b:=fun h=>hvb (by rw [h]; rfl)
  have hsome:∀ x,x < arr.size→(w.cell? ⟨b,x,none⟩).isSome=true:=fun x hx=>by simp [World.cell?,hb,hx]
  by_cases hin:i=n
  ·subst hin
   by_cases hroomy:i+1≤c
   ·have e1:(i+1) * K=i * K+K:=Nat.succ_mul _ _
    have e2:(i+1) * K≤c * K:=Nat.mul_le_mul_right _ hroomy
    refine (hr.A b off i c vb voff vc w _ hvl hroomy hvs h1v (fun j hj=>?_)).mono ?_
    ·rw [hvl] at hj
     exact ⟨hsome _ (by omega),row_thaw hb hfz _ (by omega)⟩
    ·rintro e w' ⟨rfl,rfl⟩
     exact done rfl (ins_endA hb hκ hroomy hroom hfz hn hes hes3 hS hsz3)
   ·refine (hr.B (some ⟨b,off,none⟩) i c vb voff vc w ((arr.toList.drop off).take (i * K)) _ hvl hc (by omega) (by omega) (fun w' hw'=>?_) hvs h1v).mono ?_
    ·exact run_firstCells_some (P:=P) w' K i ⟨b,off,none⟩ i c _ hcl (fun t x hx=>by
      rw [Addr.add_lit]
      have:=hcs t x hx
      simpa [World.cell?,hw'] using this)
    ·rintro e w' ⟨G,zz,hG,hz,rfl,rfl⟩
     exact done rfl (ins_endB hE40 hn (by omega) hes hes3 hst hsz3 hG hz)
  ·have hlt:i < n:=by omega
   by_cases hroomy:n+1≤c
   ·have e1:(n+1) * K=n * K+K:=Nat.succ_mul _ _
    have e2:(n+1) * K≤c * K:=Nat.mul_le_mul_right _ hroomy
    refine (hr.D b off n c i vb voff vc w _ _ hcl hvl hlt hroomy (by omega) hvb' hcs (fun j hj=>hsome _ (by omega)) (fun j hj=>row_thaw hb hfz _ (by omega)) hvs h1c h1v E3 E0 arr3.size arr.size hsh3 (by simp [World.shape?,hb]) (by omega) (hfz3 _) (hfz3 _)).mono ?_
    rintro e w' ⟨rfl,rfl⟩
    exact done rfl (ins_endD hb hκ hlt hroomy hroom hfz hn hes hes3 hS hsz3)
   ·refine (hr.C b off n c i vb voff vc w _ _ hcl hvl hlt hc (by omega) (by omega) (heap_lt hb) hvw hcs hvs h1c h1v).mono ?_
    rintro e w' ⟨G,ROW,hG,hR,hRt,rfl,rfl⟩
    exact done rfl (ins_endC hE40 hn hlt (by omega) hes hes3 hst hsz3 hG hR hRt)
end
theorem Insert_at {w:World} {u:Value} {l:List (List UInt8)} {x:List UInt8} {i vb:Nat} (hi:i≤l.length) (hlen:l.length≤4294967295) (hown:OwnAt (fun _=>False) w u 9 1 (l.map cS)) (hb:w.heap[vb]? = some (.cells #[strOf x] 9 (0,0))) (hne:Go.Vm.blk u≠some vb) :
  Calls Tryz.prog 36 #[u,.int .i64 i,.slice (some ⟨vb,0,none⟩) 1 1] w fun e w'=>∃ u',e=.returned u'∧OwnAt (fun _=>False) w' u' 9 1 ((l.take i++x :: l.drop i).map cS)∧ArzM.Mv w w' (fun b=>Go.Vm.blk u=some b) (fun b=>Go.Vm.blk u'=some b):=by
 refine (insert_world (S:=fun _=>False) (κ3:=9+1099511627776) (v:=cS x) (by decide) roads_36 (fun w=>by kernel_rfl) (by simpa using hi) (by simpa using hlen) (by decide) (Nat.le_add_left _ _) hown
  (.inr ⟨vb,0,1,#[strOf x],9,(0,0),rfl,Nat.le_refl _,by simp,?_,hb,?_,rfl,⟨⟨_,rfl,rfl⟩,trivial⟩,trivial⟩) (fun b h=>?_) (fun _ _ h=>h) (fun _ h=>h.elim)).mono ?_
 ·exact .inl rfl
 ·exact KOk.lit (E:=9) (by decide)
 ·cases h
  exact hne
 ·rintro e w' ⟨u',rfl,h⟩
  refine ⟨u',rfl,by simpa using h.own,h.os,h.tape,h.output,h.size,fun b h1 h2=>h.old b h1 h2,fun b h1=>h.blk b h1⟩
end Go.Vm.ArzG
