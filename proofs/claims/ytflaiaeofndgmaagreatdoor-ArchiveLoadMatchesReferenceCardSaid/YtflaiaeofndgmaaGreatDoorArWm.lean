/-
  The law's other callees at the world's level.
-/
import Derived.Test.YtflaiaeofndgmaaGreatDoorArWl
namespace Go.Vm.ArzG
open Go.Proofs
open Go.RowKit Go.Shelf Go.Vm.ArzM
theorem Equal_at {W:World} {v u:Value} {l m:List (List UInt8)} (hv:RD (allS W) W (.sl 1 (l.map cS)) v) (hu:RD (allS W) W (.sl 1 (m.map cS)) u) {F:Nat} {r:Bool} (h:slices_Equal_string F l m=some r):Calls Tryz.prog 7 #[v,u] W fun e W'=>e=.returned (.bool r)∧Below W.heap.size W W':=by
 refine (belowGs (gs:=[]) (us:=[v,u]) (slices_Equal_string_ok h) rfl (show 2 < resSlot by decide) rfl ⟨hv,hu,trivial⟩ (by simp)).mono ?_
 rintro e W' ⟨x,S',β',rfl,hx,hb,_⟩
 have e1:x=.bool r:=hx.1
 rw [e1]
 exact ⟨rfl,hb⟩
theorem Sorted_at {W:World} {v:Value} {l:List (List UInt8)} (hv:RD (allS W) W (.sl 1 (l.map cS)) v) {F:Nat} {r:Bool} (h:slices_IsSorted_string F l=some r):Calls Tryz.prog 9 #[v] W fun e W'=>e=.returned (.bool r)∧Below W.heap.size W W':=by
 refine (belowGs (gs:=[]) (us:=[v]) (slices_IsSorted_string_ok h) rfl (show 1 < resSlot by decide) rfl ⟨hv,trivial⟩ (by simp)).mono ?_
 rintro e W' ⟨x,S',β',rfl,hx,hb,_⟩
 have e1:x=.bool r:=hx.1
 rw [e1]
 exact ⟨rfl,hb⟩
theorem Saved_at {W:World} {s:List UInt8} {a b c:List (List UInt8)} {F:Nat} (h:ref3_Saved F s=some (a,b,c)):Calls Tryz.prog 6 #[strOf s] W fun e W'=>∃ u v w,e=.returned (.tuple ⟨[u,v,w]⟩)∧OwnAt (fun _=>False) W' u 9 1 (a.map cS)∧OwnAt (fun _=>False) W' v 9 1 (b.map cS)∧OwnAt (fun _=>False) W' w 9 1 (c.map cS)∧Below W.heap.size W W':=by
 refine (belowGs (gs:=[]) (us:=[strOf s]) (ref3_Saved_ok h) rfl (show 1 < resSlot by decide) rfl ⟨rfl,trivial⟩ (by simp)).mono ?_
 rintro e W' ⟨u,S',β',rfl,hu,hb,_⟩
 obtain ⟨vs,rfl,_,hp⟩:=hu
 match vs,hp with
 | [x,y,z],hp =>
  obtain ⟨h1,h2,h3,_⟩:=hp
  exact ⟨x,y,z,rfl,strs_own h1.2,strs_own h2.2,strs_own h3.2,hb⟩
 | [],hp=>exact hp.elim
 | [_],hp=>exact hp.2.elim
 | [_,_],hp=>exact hp.2.2.elim
 | _ :: _ :: _ :: _ :: _,hp=>exact hp.2.2.2.elim
theorem own_len {S:Nat→Prop} {w:World} {u:Value} {l:List (List UInt8)} (h:OwnAt S w u 9 1 (l.map cS)):∃ q c,u=.slice q l.length c:=by
 rcases h with ⟨h1,h2⟩ | ⟨b,off,c,arr,E,fz,h1,_⟩
 ·exact ⟨none,0,by rw [h1,List.map_eq_nil_iff.1 h2]; rfl⟩
 ·exact ⟨_,c,by rw [h1,List.length_map]⟩
theorem own_str {w:World} {u:Value} {l:List (List UInt8)} (h:OwnAt (fun _=>False) w u 9 1 (l.map cS)):∃ q c,u=.slice q l.length c∧∀ i x,l[i]? = some x→∃ b off,q=some ⟨b,off,none⟩∧b < w.heap.size∧w.cell? ⟨b,off+i,none⟩=some (strOf x):=by
 rcases h with ⟨h1,h2⟩ | ⟨b,off,c,arr,E,fz,h1,h2,h3,h4,h5,h6,h7⟩
 ·have hl:l=[]:=List.map_eq_nil_iff.1 h2
  subst hl
  exact ⟨none,0,h1,fun i x hx=>by simp at hx⟩
 ·refine ⟨_,c,by rw [h1,List.length_map],fun i x hx=>⟨b,off,rfl,heap_lt h5,?_⟩⟩
  obtain ⟨_,h12⟩:=REs.get _ off i [Dat.str x] h7 (by simp [cS,hx])
  obtain ⟨u,h13,h14⟩:=RCs.get _ _ 0 _ h12 rfl
  have e3:u=strOf x:=h14
  simpa [World.cell?,h5,e3] using h13
theorem own_next {w w':World} {u:Value} {es:List (List Dat)} (h:OwnAt (fun _=>False) w u 9 1 es) (hb:Below w.heap.size w w'):OwnAt (fun _=>False) w' u 9 1 es:=own_turn h fun b hq=>hb.block b (h.lt hq)
theorem Below.next {B:Nat} {W w w':World} (h:Below B W w) (hb:Below w.heap.size w w') (hB:B≤w.heap.size):Below B W w':=h.trans (hb.mono hB)
end Go.Vm.ArzG
