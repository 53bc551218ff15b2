/-
  archive.Load: its callees at the world's level.
-/
import Derived.Test.YtflaiaeofndgmaaGreatDoorArPb
import Derived.Test.YtflaiaeofndgmaaGreatDoorArMs
import Derived.Test.YtflaiaeofndgmaaGreatDoorVmD
import Derived.Carry
namespace Go.Vm.ArzG
open Go.Proofs
open Go.RowKit Go.Shelf Go.Vm.ArzM
/-- A contract over data and a package's variables: what is returned,and that nothing that was there turns. -/
theorem belowGs {P:Program} {k:Nat} {gs:Glos} {args:List AV} {us:List Value} {W:World} {res:AV} (h:ACall P k args (gvs gs) res (gvs gs)) (hlen:us.length=args.length) (hn:args.length < resSlot) (hd:args.all AV.isData=true)
  (hr:All2 (fun _ a u=>RFlat (allS W) W (fun _=>.bool false) (0,0) a u) 0 args us) (hg:∀ g∈gs,GloAt (allS W) W g.1 g.2) :
  Calls P k us.toArray W fun e W'=>∃ v S' β',e=.returned v∧RSlot (condG []) S' W' β' resSlot res v∧Below W.heap.size W W'∧∀ i b,res.ownsAt i=true→blk (β' (resSlot,i))=some b→W.heap.size≤b:=by
 obtain ⟨hown,hm0⟩:=start_memGs hlen hn hd hr hg
 refine (h.2 W (allS W) (gbs gs) us hlen hm0).mono fun e W' ⟨u,S',β',he,hm⟩=>?_
 obtain ⟨v,hv1,hv2⟩:=hm.rel resSlot
 have hu:=hv2 u (by simp)
 subst hu
 have hres:fget ((resSlot,res) :: boxFr virtBase (gvs gs)) resSlot=res:=fget_cons_self _ _ _
 rw [hres] at hv1
 have noA:∀ b,¬ ownedBy (finFr args (gvs gs)) (gbs gs) b:=by
  rintro b ⟨x,j,hx,_⟩
  rw [hown] at hx
  cases hx
 refine ⟨u,S',β',he,hv1,⟨hm.os,hm.tape,hm.output,hm.size,fun i hi=>hm.old i hi (noA i)⟩,fun i b hi hb=>?_⟩
 rcases (hm.fre resSlot i b (by rw [hres]; exact hi) hb).2 with h' | h'
 ·exact h'
 ·exact (noA b h').elim
abbrev Tbl (w:World):Prop:=GloAt (allS w) w 0 (glob_filter_steps.flatMap (cI .u32))
theorem Tbl.next {W0 w:World} (h:Tbl W0) (hb:Below W0.heap.size W0 w):Tbl w :=
 h.mono (fun b h1=>Nat.lt_of_lt_of_le h1 hb.size) (fun b h1=>hb.block b h1)
theorem plain_at (W:World) {F:Nat} {s:List UInt8} {r:Bool} (h:archive_plain F s=some r):Calls Tryz.prog 33 #[strOf s] W fun e W'=>e=.returned (.bool r)∧Below W.heap.size W W' :=
 ACall.below (archive_plain_ok h) (us:=[strOf s]) (u:=.bool r) rfl (show 1 < resSlot by decide) rfl W
theorem Clone_at (W:World) {F:Nat} {s r:List UInt8} (h:strings_Clone F s=some r):Calls Tryz.prog 54 #[strOf s] W fun e W'=>e=.returned (strOf r)∧Below W.heap.size W W' :=
 ACall.below (strings_Clone_ok h) (us:=[strOf s]) (u:=strOf r) rfl (show 1 < resSlot by decide) rfl W
theorem Sum_at (W:World) (hg:Tbl W) {F:Nat} {s:List UInt8} {r:Int} (h:filter_Sum F s=some r):Calls Tryz.prog 40 #[strOf s] W fun e W'=>e=.returned (.int .u32 r)∧Below W.heap.size W W':=by
 refine (belowGs (gs:=[(0,glob_filter_steps.flatMap (cI .u32))]) (us:=[strOf s]) (filter_Sum_ok h) rfl (show 1 < resSlot by decide) rfl ⟨rfl,trivial⟩ (by simpa using hg)).mono ?_
 rintro e W' ⟨v,S',β',rfl,hv,hb,_⟩
 have hv':v=.int .u32 r:=hv.1
 rw [hv']
 exact ⟨rfl,hb⟩
theorem sealed_at (W:World) (hg:Tbl W) {F:Nat} {s r:List UInt8} (h:archive_sealed F s=some r):Calls Tryz.prog 17 #[strOf s] W fun e W'=>e=.returned (strOf r)∧Below W.heap.size W W':=by
 refine (belowGs (gs:=[(0,glob_filter_steps.flatMap (cI .u32))]) (us:=[strOf s]) (archive_sealed_ok h) rfl (show 1 < resSlot by decide) rfl ⟨rfl,trivial⟩ (by simpa using hg)).mono ?_
 rintro e W' ⟨v,S',β',rfl,hv,hb,_⟩
 have hv':v=strOf r:=hv
 rw [hv']
 exact ⟨rfl,hb⟩
theorem Index_at {W:World} {lo:Nat} {v:Value} {l:List (List UInt8)} (hv:W.ownsRow lo 9 1 v l.length (l.map strOf)) {F:Nat} {s:List UInt8} {r:Int} (h:slices_Index_string F l s=some r):Calls Tryz.prog 53 #[v,strOf s] W fun e W'=>e=.returned (.int .i64 r)∧Below W.heap.size W W':=by
 refine (belowGs (gs:=[]) (us:=[v,strOf s]) (slices_Index_string_ok h) rfl (show 2 < resSlot by decide) rfl ⟨own_strs hv,rfl,trivial⟩ (by simp)).mono ?_
 rintro e W' ⟨u,S',β',rfl,hu,hb,_⟩
 have hv':u=.int .i64 r:=hu.1
 rw [hv']
 exact ⟨rfl,hb⟩
theorem own_data {w:World} {v:Value} {e:TypeId} {es:List (List Dat)} (h:OwnAt (fun _=>False) w v e 1 es):RD (allS w) w (.sl 1 es) v:=by
 simp only [RD]
 rcases h with ⟨h1,h2⟩ | ⟨b,off,c,arr,E,fz,h1,h2,h3,h4,h5,h6,h7⟩
 ·exact .inl ⟨⟨_,h1⟩,h2⟩
 ·exact .inr ⟨b,off,c,arr,E,fz,h1,h2,heap_lt h5,h5,REs.mono (fun _ h=>h.elim) (fun _ h=>h.elim) _ _ _ _ h7⟩
theorem Search_at {W:World} {v:Value} {l:List (List UInt8)} (hv:OwnAt (fun _=>False) W v 9 1 (l.map cS)) {F:Nat} {s:List UInt8} {i:Int} {b:Bool} (h:slices_BinarySearch_string F l s=some (i,b)) :
  Calls Tryz.prog 34 #[v,strOf s] W fun e W'=>e=.returned (.tuple ⟨[.int .i64 i,.bool b]⟩)∧Below W.heap.size W W':=by
 refine (belowGs (gs:=[]) (us:=[v,strOf s]) (slices_BinarySearch_string_ok h) rfl (show 2 < resSlot by decide) rfl ⟨own_data hv,rfl,trivial⟩ (by simp)).mono ?_
 rintro e W' ⟨u,S',β',rfl,hu,hb,_⟩
 obtain ⟨vs,rfl,_,hp⟩:=hu
 match vs,hp with
 | [a,b'],hp =>
  obtain ⟨h1,h2,_⟩:=hp
  have e1:a=.int .i64 i:=h1.1
  have e2:b'=.bool b:=h2.1
  subst e1 e2
  exact ⟨rfl,hb⟩
 | [],hp=>exact hp.elim
 | [_],hp=>exact hp.2.elim
 | _ :: _ :: _ :: _,hp=>exact hp.2.2.elim
/-- Where a new row of numbers lies. -/
def RowI (w:World) (B:Nat) (v:Value) (l:List Int):Prop:=∃ q c,v=.slice q l.length c∧(l≠[]→∃ b off,q=some ⟨b,off,none⟩∧B≤b∧b < w.heap.size∧∀ i x,l[i]? = some x→w.cell? ⟨b,off+i,none⟩=some (.int .i64 x))
theorem Cuts_at (W:World) {F:Nat} {s:List UInt8} {l:List Int} {n:Int} (h:archive_Cuts F s=some (l,n)):Calls Tryz.prog 13 #[strOf s] W fun e W'=>∃ v,e=.returned (.tuple ⟨[v,.int .i64 n]⟩)∧RowI W' W.heap.size v l∧Below W.heap.size W W':=by
 refine (belowGs (gs:=[]) (us:=[strOf s]) (archive_Cuts_ok h) rfl (show 1 < resSlot by decide) rfl ⟨rfl,trivial⟩ (by simp)).mono ?_
 rintro e W' ⟨v,S',β',rfl,hv,hb,hfr⟩
 obtain ⟨vs,rfl,_,hp⟩:=hv
 match vs,hp with
 | [a,b],hp =>
  obtain ⟨h1,h2,_⟩:=hp
  have e2:b=.int .i64 n:=h2.1
  subst e2
  refine ⟨a,rfl,?_,hb⟩
  obtain ⟨h3,h4⟩:=h1
  rcases h4 with ⟨h4,h5⟩ | ⟨b,off,c,arr,E,fz,h5,h6,h7,h8,h9,h10,h11⟩
  ·have hl:l=[]:=List.map_eq_nil_iff.1 h5
   subst hl
   exact ⟨none,0,h4,fun hn=>absurd rfl hn⟩
  ·refine ⟨_,c,by rw [h5,List.length_map],fun _=>⟨b,off,rfl,hfr 1 b rfl (by rw [← h3,h5]; rfl),heap_lt h9,fun i x hx=>?_⟩⟩
   obtain ⟨_,h12⟩:=REs.get _ off i [Dat.v (.int .i64 x)] h11 (by simp [cI,hx])
   obtain ⟨u,h13,h14⟩:=RCs.get _ _ 0 _ h12 rfl
   have e3:u=.int .i64 x:=h14.1
   simpa [World.cell?,h9,e3] using h13
 | [],hp=>exact hp.elim
 | [_],hp=>exact hp.2.elim
 | _ :: _ :: _ :: _,hp=>exact hp.2.2.elim
theorem New_at (W:World):Calls Tryz.prog 11 #[] W fun e W'=>e=.returned (.pointer (some ⟨W.heap.size+2,0,none⟩))∧W'=((W.alloc (.map #[] 0)).alloc (.map #[] 0)).alloc (.cells #[.map (some W.heap.size),.map (some (W.heap.size+1)),.slice none 0 0] 65 (0,0)):=by
 have hmm:=@run_makeMap Tryz.prog
 go_enter Tryz.func11,Tryz.ntmps11
 go_wp2
 go_ret
 exact ⟨rfl,rfl⟩
theorem ArAt.new (W:World):ArAt W.heap.size (((W.alloc (.map #[] 0)).alloc (.map #[] 0)).alloc (.cells #[.map (some W.heap.size),.map (some (W.heap.size+1)),.slice none 0 0] 65 (0,0)))
  ⟨W.heap.size+2,W.heap.size,W.heap.size+1,.slice none 0 0,fun _=>.slice none 0 0,fun _=>.slice none 0 0,fun _=>.slice none 0 0⟩ ⟨[],[],[]⟩:=by
 have h0:∀ (s:Sl) (b:Nat),ArV.blk ⟨W.heap.size+2,W.heap.size,W.heap.size+1,.slice none 0 0,fun _=>.slice none 0 0,fun _=>.slice none 0 0,fun _=>.slice none 0 0⟩ ⟨[],[],[]⟩ s=some b→(s=.a∧b=W.heap.size+2)∨(s=.p∧b=W.heap.size)∨(s=.n∧b=W.heap.size+1):=by
  intro s b h
  cases s <;> simp [ArV.blk,Value.ownBlock,Go.Vm.blk] at h <;> simp [h.symm]
 refine ⟨?_,?_,?_,.inl ⟨rfl,rfl⟩,fun i p h=>by simp at h,fun i p h=>by simp at h,fun i p h=>by simp at h,?_,?_⟩
 ·simpa [World.size_alloc] using heap_alloc_new ((W.alloc (.map #[] 0)).alloc (.map #[] 0)) (.cells #[.map (some W.heap.size),.map (some (W.heap.size+1)),.slice none 0 0] 65 (0,0))
 ·refine (Below.heap_alloc _ _ _ (by rw [World.size_alloc,World.size_alloc]; dsimp only; omega)).trans ((Below.heap_alloc _ _ _ (by rw [World.size_alloc]; dsimp only; omega)).trans (heap_alloc_new _ _))
 ·refine (Below.heap_alloc _ _ _ (by rw [World.size_alloc,World.size_alloc]; dsimp only; omega)).trans ?_
  have:=heap_alloc_new (W.alloc (.map #[] 0)) (.map #[] 0)
  rw [World.size_alloc] at this
  exact this
 ·rintro b ⟨s,hs⟩
  rcases h0 s b hs with ⟨_,h⟩ | ⟨_,h⟩ | ⟨_,h⟩ <;> omega
 ·intro s t b hs ht
  rcases h0 s b hs with ⟨h1,h⟩ | ⟨h1,h⟩ | ⟨h1,h⟩ <;> rcases h0 t b ht with ⟨h2,h'⟩ | ⟨h2,h'⟩ | ⟨h2,h'⟩ <;> first | (rw [h1,h2]; done) | omega
end Go.Vm.ArzG
