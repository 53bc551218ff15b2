import Derived.Test.YtflaiaeofndgmaaDoorArcWf
import Derived.StillTailTactics
namespace Go.Vm.ArcG
open Go.Proofs
open Go.RowKit Go.Shelf
theorem boxNew {w:World} {X:Nat} (hX:w.heap[X]? = some (.cells #[.pointer none,.slice none 0 0] 57 (0,0))):BoxAt w X X [.slf 0 57,.own 5 1 []]:=by
  refine ⟨fun _=>False,fun p=>if p=(virtBase,0) then .pointer (some ⟨X,0,none⟩) else .slice none 0 0,by simp,?_,?_,?_,fun b hb=>hb.elim,Nat.le_of_lt (heap_lt hX)⟩
  · refine ⟨by simp,X,_,57,rfl,hX,⟨by simp,?_,.inl rfl⟩,⟨by simp,.inl ⟨rfl,rfl⟩⟩,trivial⟩
    simp [tyAt,hX]
  · intro i j b _ _ h3 h4
    have key:∀ i b,blk ((fun p:Path=>if p=(virtBase,0) then Value.pointer (some ⟨X,0,none⟩) else .slice none 0 0) (virtBase,i))=some b→i=0:=by
      intro i b h
      by_cases hi:i=0
      · exact hi
      · simp [hi,blk] at h
    rw [key i b h3,key j b h4]
  · intro i b _ h
    by_cases hi:i=0
    · subst hi
      simp [blk] at h
      exact ⟨fun h=>h,Nat.le_of_eq h⟩
    · simp [hi,blk] at h
set_option maxRecDepth 100000 in
set_option maxHeartbeats 4000000 in
theorem Get_at {W w:World} (h:Done W w):Calls Tryd.prog 10 #[.pointer (some ⟨W.heap.size+2,0,none⟩),.string ⟨#[97]⟩] w fun e w'=>e=.returned (.tuple ⟨[.string ⟨#[120]⟩,.int .i64 0]⟩)∧Below w.heap.size w w':=by
  obtain ⟨pb,pc,parr,pE,pf,kb,ko,kc,karr,kE,kf,ab,ao,ac,aarr,aE,af,ord,h,hpb,hp0,hkb,hk0,hab,ha0⟩:=h
  obtain ⟨c0,c1,c2⟩:=h.cells
  have lk:=look_name h.hq
  go_enter Tryd.func10,Tryd.ntmps10
  go_wp2
  have h2:=(h.alloc1 (Obj.cells #[Value.slice (some ⟨kb,ko,none⟩) 1 kc,Value.slice (some ⟨ab,ao,none⟩) 1 ac,Value.int IntKind.i64 1] 48)).alloc1 (Obj.cells #[Value.pointer none,Value.slice none 0 0] 57)
  have b2:Below w.heap.size w ((w.alloc (Obj.cells #[Value.slice (some ⟨kb,ko,none⟩) 1 kc,Value.slice (some ⟨ab,ao,none⟩) 1 ac,Value.int IntKind.i64 1] 48)).alloc (Obj.cells #[Value.pointer none,Value.slice none 0 0] 57)):=((Below.refl _ _).alloc (Nat.le_refl _) _).alloc (by simp) _
  have hE:((w.alloc (Obj.cells #[Value.slice (some ⟨kb,ko,none⟩) 1 kc,Value.slice (some ⟨ab,ao,none⟩) 1 ac,Value.int IntKind.i64 1] 48)).alloc (Obj.cells #[Value.pointer none,Value.slice none 0 0] 57)).heap[w.heap.size]? = some (Obj.cells #[Value.slice (some ⟨kb,ko,none⟩) 1 kc,Value.slice (some ⟨ab,ao,none⟩) 1 ac,Value.int IntKind.i64 1] 48 (0,0)):=by
    show ((w.heap.push _).push _)[w.heap.size]? = _
    rw [Array.getElem?_push,if_neg (by simp),Array.getElem?_push,if_pos rfl]
  have hBx:((w.alloc (Obj.cells #[Value.slice (some ⟨kb,ko,none⟩) 1 kc,Value.slice (some ⟨ab,ao,none⟩) 1 ac,Value.int IntKind.i64 1] 48)).alloc (Obj.cells #[Value.pointer none,Value.slice none 0 0] 57)).heap[w.heap.size+1]? = some (Obj.cells #[Value.pointer none,Value.slice none 0 0] 57 (0,0)):=by
    show ((w.heap.push _).push _)[w.heap.size+1]? = _
    rw [Array.getElem?_push,if_pos (by simp)]
  revert h2 b2 hE hBx
  generalize (World.alloc (World.alloc _ _) _)=w2
  intro h2 b2 hE hBx
  have hpb2:=(b2.block pb (heap_lt hpb)).trans hpb
  have hkb2:=(b2.block kb (heap_lt hkb)).trans hkb
  have hab2:=(b2.block ab (heap_lt hab)).trans hab
  clear c0 c1 c2 lk
  have ck2:=(cell_at hkb2 ko).trans hk0
  refine wp_loop_rounds 2 ?_
  rw [rounds_succ]
  go_wp2
  have h2d:St W w2.drew _ _ _:=h2.next (Below.refl _ _).drew
  obtain ⟨c0,c1,c2⟩:=h2d.cells
  have lk:=look_one h2d.hp
  have e1:w2.drew.cell? ⟨w.heap.size,1,none⟩=some (.slice (some ⟨ab,ao,none⟩) 1 ac):=(cell_at (w:=w2.drew) hE 1).trans rfl
  have e2:w2.drew.cell? ⟨ab,ao,none⟩=some (.int .i64 0):=(cell_at (w:=w2.drew) hab2 ao).trans ha0
  have e3:w2.drew.cell? ⟨pb,0,none⟩=some (.string ⟨#[120]⟩):=(cell_at (w:=w2.drew) hpb2 0).trans hp0
  have mixed:Tryd.prog.follows .mixedOrders=true:=by kernel_rfl
  go_still_tail 13,(by kernel_rfl)
  change wpList _ _ _ _ _ w2.drew
  have hb0:BoxAt w2.drew (w.heap.size+1) (w.heap.size+1) [.slf 0 57,.own 5 1 []]:=boxNew hBx
  have ws:=boxCall (al:=[.d (.str [120])]) (us:=[strOf [120]]) (ArcB.strings_Builder_WriteString_ok (F:=0) (a0:=[120]) (c1:=[]) rfl) rfl (show 2 < resSlot by decide) hb0
  go_wp2_with (go_at_fn 18)
  refine ws.mono ?_
  rintro e w3 ⟨v,rfl,_,hb1,b3⟩
  clear ws hb0
  go_wp2
  rw [rounds_succ]
  have bs:=boxCall (al:=[]) (us:=[]) (ArcB.b_String (off:=0) (cs:=[.slf 0 57,.own 5 1 ([120].map cU)]) (l:=[120]) (by decide) rfl (by kernel_rfl)) rfl (show 1 < resSlot by decide) hb1
  go_wp2_with (go_at_fn 19)
  refine bs.mono ?_
  rintro e w4 ⟨v',rfl,⟨S',β',hv'⟩,_,b4⟩
  have e4:v'=.string ⟨#[120]⟩:=hv'
  subst e4
  go_wp2
  go_ret2
  have b3':Below w.heap.size w2 w3:=⟨b3.os,b3.tape,b3.output,b3.size,fun k hk=>b3.block k (by omega)⟩
  exact ⟨rfl,(b2.trans b3').trans (b4.mono (by omega))⟩
end Go.Vm.ArcG
