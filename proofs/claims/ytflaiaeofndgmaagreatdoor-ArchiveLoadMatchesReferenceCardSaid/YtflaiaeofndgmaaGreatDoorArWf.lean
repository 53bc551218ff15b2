/-
  archive.Get and archive.Names.
-/
import Derived.Test.YtflaiaeofndgmaaGreatDoorArWe
import Derived.StillTailTactics
namespace Go.Vm.ArzG
open Go.Proofs
open Go.RowKit Go.Shelf Go.Vm.ArzM
/-- The pieces of an entry,one behind the other. -/
def getLoop (st:Ar):List Int→List Int→List UInt8→Option (List UInt8)
 | [],_,acc=>some acc
 | k :: kr,a :: ar,acc=>if 0≤a then ((st.rowAt k)[a.toNat]?).bind fun p=>if acc.length+p.length≤4294967296 then getLoop st kr ar (acc++p) else none else none
 | _ :: _,[],_=>none
def getF (st:Ar) (name:List UInt8):Option (List UInt8×Int):=match pos (st.N.map (·.1)) name with
 | none=>some ([],8)
 | some i=>(st.N[i]?).bind fun m=>if m.2.1.length≤1000000 then (getLoop st m.2.1 m.2.2.1 []).map fun r=>(r,0) else none
theorem BoxAt.drew {w:World} {B X:Nat} {cs:List AV} (h:BoxAt w B X cs):BoxAt w.drew B X cs:=by
 obtain ⟨S,β,h1,h2,h3,h4,h5,h6⟩:=h
 exact ⟨S,β,h1,h2.turn (fun _ _ _=>rfl) (fun _ h=>h) (fun _ _=>rfl) (fun _=>rfl) (fun _ _ _ _=>rfl) (fun _ _=>rfl),h3,h4,h5,h6⟩
theorem getLoop_len {st:Ar}:∀ {ks ia:List Int} {acc r:List UInt8},getLoop st ks ia acc=some r→acc.length≤4294967296→r.length≤4294967296
 | [],_,acc,r,h,hl=>by
  unfold getLoop at h
  cases h
  exact hl
 | k :: kr,[],acc,r,h,hl=>by
  unfold getLoop at h
  cases h
 | k :: kr,a :: ar,acc,r,h,hl=>by
  unfold getLoop at h
  split at h
  case isFalse=>cases h
  rw [Option.bind_eq_some_iff] at h
  obtain ⟨p,_,h⟩:=h
  split at h
  case isFalse=>cases h
  rename_i hs
  exact getLoop_len h (by simpa using hs)
theorem strs_own {S:Nat→Prop} {w:World} {v:Value} {e:TypeId} {l:List (List UInt8)} (h:OwnAt S w v e 1 (l.map cS)):OwnAt (fun _=>False) w v e 1 (l.map cS):=by
 have key:∀ (l:List (List UInt8)) (g:Nat→Option Value) (o:Nat),REs S w 1 (l.map cS) g o→REs (fun _=>False) w 1 (l.map cS) g o:=by
  intro l
  induction l with
  | nil=>exact fun _ _ _=>trivial
  | cons x l ih =>
   intro g o h
   obtain ⟨h1,⟨⟨u,h2,h3⟩,_⟩,h4⟩:=h
   exact ⟨h1,⟨⟨u,h2,h3⟩,trivial⟩,ih g _ h4⟩
 rcases h with h | ⟨b,off,c,arr,E,fz,h1,h2,h3,h4,h5,h6,h7⟩
 ·exact .inl h
 ·exact .inr ⟨b,off,c,arr,E,fz,h1,h2,h3,h4,h5,h6,key _ _ _ h7⟩
theorem own_row {w:World} {v:Value} {e:TypeId} {k:IntKind} {l:List Int} (h:OwnAt (fun _=>False) w v e 1 (l.map (cI k))):∃ q c,v=.slice q l.length c∧∀ i x,l[i]? = some x→∃ b off,q=some ⟨b,off,none⟩∧b < w.heap.size∧Go.Vm.blk v=some b∧w.cell? ⟨b,off+i,none⟩=some (.int k x):=by
 rcases h with ⟨h1,h2⟩ | ⟨b,off,c,arr,E,fz,h1,h2,h3,h4,h5,h6,h7⟩
 ·have hl:l=[]:=List.map_eq_nil_iff.1 h2
  subst hl
  exact ⟨none,0,h1,fun i x hx=>by simp at hx⟩
 ·refine ⟨_,c,by rw [h1,List.length_map],fun i x hx=>⟨b,off,rfl,heap_lt h5,by rw [h1]; rfl,?_⟩⟩
  obtain ⟨_,h12⟩:=REs.get _ off i [Dat.v (.int k x)] h7 (by simp [cI,hx])
  obtain ⟨u,h13,h14⟩:=RCs.get _ _ 0 _ h12 rfl
  have e3:u=.int k x:=h14.1
  simpa [World.cell?,h5,e3] using h13
set_option maxRecDepth 100000 in
set_option maxHeartbeats 4000000 in
theorem Get_at {lo:Nat} {w:World} {A:ArV} {st:Ar} {name r:List UInt8} {e0:Int} (h:ArAt lo w A st) (hr:getF st name=some (r,e0)) :
  Calls Tryz.prog 10 #[.pointer (some ⟨A.a,0,none⟩),strOf name] w fun e w'=>e=.returned (.tuple ⟨[strOf r,.int .i64 e0]⟩)∧Below w.heap.size w w':=by
 obtain ⟨_,c1,_,_⟩:=h.cells
 have lk:(Instr.lookup 63 (.map (some A.bn)) (.string ⟨name.toArray⟩) true).run Tryz.prog w=_:=h.nm.look mtN name true
 unfold getF at hr
 cases hp:pos (st.N.map (·.1)) name with
 | none =>
  rw [hp] at hr
  cases hr
  simp only [if_true,valAt,hp,Option.map_none,Option.getD_none,Option.isSome_none,zeroE] at lk
  unfold strOf
  go_enter Tryz.func10,Tryz.ntmps10
  go_wp2
  go_ret2
  exact ⟨rfl,(Below.refl _ _).alloc (Nat.le_refl _) _⟩
 | some i =>
  rw [hp] at hr
  have hi:i < st.N.length:=by simpa using pos_lt hp
  obtain ⟨m,hm⟩:∃ m,st.N[i]? = some m:=⟨_,List.getElem?_eq_getElem hi⟩
  dsimp only at hr
  rw [hm,Option.bind_some] at hr
  split at hr
  case isFalse=>cases hr
  rename_i hlen
  rw [Option.map_eq_some_iff] at hr
  obtain ⟨r',hL,hr⟩:=hr
  cases hr
  have hrl0:r.length≤9223372036854775807:=Nat.le_trans (getLoop_len hL (by simp)) (by decide)
  obtain ⟨kq,kc,hk,hkc⟩:=own_row (h.krow i m hm)
  obtain ⟨aq,ac,ha,hac⟩:=own_row (h.arow i m hm)
  simp only [if_true,valAt,hp,Option.map_some,Option.getD_some,Option.isSome_some,Ar.entV,hk,ha,hm] at lk
  unfold strOf
  go_enter Tryz.func10,Tryz.ntmps10
  go_wp2
  have hA2:=(h.alloc (Obj.cells #[Value.slice kq m.2.1.length kc,Value.slice aq m.2.2.1.length ac,Value.int IntKind.i64 m.2.2.2] 69)).alloc (Obj.cells #[Value.pointer none,Value.slice none 0 0] 74)
  have b2:Below w.heap.size w ((w.alloc (Obj.cells #[Value.slice kq m.2.1.length kc,Value.slice aq m.2.2.1.length ac,Value.int IntKind.i64 m.2.2.2] 69)).alloc (Obj.cells #[Value.pointer none,Value.slice none 0 0] 74)):=((Below.refl _ _).alloc (Nat.le_refl _) _).alloc (by simp) _
  have hE:((w.alloc (Obj.cells #[Value.slice kq m.2.1.length kc,Value.slice aq m.2.2.1.length ac,Value.int IntKind.i64 m.2.2.2] 69)).alloc (Obj.cells #[Value.pointer none,Value.slice none 0 0] 74)).heap[w.heap.size]? = some (Obj.cells #[Value.slice kq m.2.1.length kc,Value.slice aq m.2.2.1.length ac,Value.int IntKind.i64 m.2.2.2] 69 (0,0)):=by
   show ((w.heap.push _).push _)[w.heap.size]? = _
   rw [Array.getElem?_push,if_neg (by simp),Array.getElem?_push,if_pos rfl]
  have hBx:((w.alloc (Obj.cells #[Value.slice kq m.2.1.length kc,Value.slice aq m.2.2.1.length ac,Value.int IntKind.i64 m.2.2.2] 69)).alloc (Obj.cells #[Value.pointer none,Value.slice none 0 0] 74)).heap[w.heap.size+1]? = some (Obj.cells #[Value.pointer none,Value.slice none 0 0] 74 (0,0)):=by
   show ((w.heap.push _).push _)[w.heap.size+1]? = _
   rw [Array.getElem?_push,if_pos (by simp)]
  revert hA2 b2 hE hBx
  generalize (World.alloc (World.alloc _ _) _)=w2
  intro hA2 b2 hE hBx
  have HA:Aside (ArAt lo w2 A st∧w2.heap[w.heap.size]? = some (Obj.cells #[Value.slice kq m.2.1.length kc,Value.slice aq m.2.2.1.length ac,Value.int IntKind.i64 m.2.2.2] 69 (0,0))∧∀ b,st.Own A b→b < w.heap.size):=⟨hA2,hE,fun b hb=>h.lt hb⟩
  have HK:Aside (∀ (j:Nat) (x:Int),m.2.1[j]? = some x→∃ b off,kq=some ⟨b,off,none⟩∧b < w.heap.size∧w2.cell? ⟨b,off+j,none⟩=some (.int .u32 x)):=fun j x hx=>by
   obtain ⟨b,off,e,g1,g2,g3⟩:=hkc j x hx
   exact ⟨b,off,e,g1,by rw [World.cell?_of_block (b2.block b g1)]; exact g3⟩
  have HI:Aside (∀ (j:Nat) (x:Int),m.2.2.1[j]? = some x→∃ b off,aq=some ⟨b,off,none⟩∧b < w.heap.size∧w2.cell? ⟨b,off+j,none⟩=some (.int .i64 x)):=fun j x hx=>by
   obtain ⟨b,off,e,g1,g2,g3⟩:=hac j x hx
   exact ⟨b,off,e,g1,by rw [World.cell?_of_block (b2.block b g1)]; exact g3⟩
  have hb0:BoxAt w2 (w.heap.size+1) (w.heap.size+1) [.slf 0 74,.own 5 1 (([]:List UInt8).map cU)]:=boxNew hBx
  clear hA2 hE hBx hkc hac hk ha lk c1 hp
  go_loopg [25] (m.2.1.length) (fun g v25 wx=>∃ (j:Nat) (acc:List UInt8),g+j=m.2.1.length∧v25=.int .i64 (j:Int)∧Below (w.heap.size+1) w2 wx∧BoxAt wx (w.heap.size+1) (w.heap.size+1) [.slf 0 74,.own 5 1 (acc.map cU)]∧getLoop st (m.2.1.drop j) (m.2.2.1.drop j) acc=some r)
  case atStart=>exact ⟨0,[],by omega,rfl,Below.refl _ _,hb0,hL⟩
  case round =>
   obtain ⟨j,acc,hg,rfl,hbe,hbx,hL⟩:=hrel
   by_cases hj:j < m.2.1.length
   ·have hwk:wrap64 ((j:Int)+1)=((j+1:Nat):Int):=by unfold wrap64; omega
    rw [List.drop_eq_getElem_cons hj] at hL
    by_cases hj2:j < m.2.2.1.length
    case neg =>
     rw [List.drop_eq_nil_of_le (Nat.le_of_not_lt hj2)] at hL
     unfold getLoop at hL
     cases hL
    rw [List.drop_eq_getElem_cons hj2] at hL
    unfold getLoop at hL
    split at hL
    case isFalse=>cases hL
    rename_i hpos
    rw [Option.bind_eq_some_iff] at hL
    obtain ⟨p,hpc,hL⟩:=hL
    split at hL
    case isFalse=>cases hL
    rename_i hsz
    obtain ⟨hA2,hE,hown⟩:=HA.out
    have hlt2:w.heap.size < w2.heap.size:=heap_lt hE
    have hA3:ArAt lo wr A st:=hA2.next fun b hb=>hbe.block b (Nat.lt_succ_of_lt (hown b hb))
    have hE3:wr.heap[w.heap.size]? = _:=(hbe.block w.heap.size (Nat.lt_succ_self _)).trans hE
    obtain ⟨kb,ko,rfl,hkb,hkc⟩:=HK.out j _ (List.getElem?_eq_getElem hj)
    obtain ⟨ab,ao,rfl,hab,hac⟩:=HI.out j _ (List.getElem?_eq_getElem hj2)
    have ck:wr.cell? ⟨kb,ko+j,none⟩=some (.int .u32 m.2.1[j]):=by
     rw [World.cell?_of_block (hbe.block kb (Nat.lt_succ_of_lt hkb))]
     exact hkc
    have ca:wr.drew.cell? ⟨ab,ao+j,none⟩=some (.int .i64 m.2.2.1[j]):=by
     rw [show wr.drew.cell? ⟨ab,ao+j,none⟩=wr.cell? ⟨ab,ao+j,none⟩ from rfl,World.cell?_of_block (hbe.block ab (Nat.lt_succ_of_lt hab))]
     exact hac
    have ce:wr.drew.cell? ⟨w.heap.size,1,none⟩=some (.slice (some ⟨ab,ao,none⟩) m.2.2.1.length ac):=by
     rw [show wr.drew.cell? ⟨w.heap.size,1,none⟩=wr.cell? ⟨w.heap.size,1,none⟩ from rfl]
     simp [World.cell?,hE3]
    obtain ⟨c0,_,_,_⟩:=hA3.drew.cells
    have lk:(Instr.lookup 62 (.map (some A.bp)) (.int .u32 m.2.1[j]) false).run Tryz.prog wr.drew=_:=hA3.drew.pm.look mtP m.2.1[j] false
    have hrow:=hA3.drew.row m.2.1[j]
    have hplt:m.2.2.1[j].toNat < (st.rowAt m.2.1[j]).length:=(List.getElem?_eq_some_iff.1 hpc).1
    obtain ⟨rb,rc,hv,hvb,_⟩:=own_slice hrow (Nat.lt_of_le_of_lt (Nat.zero_le _) hplt)
    simp only [Bool.false_eq_true,if_false,hv] at lk
    have cr:wr.drew.cell? ⟨rb,m.2.2.1[j].toNat,none⟩=some (.string ⟨p.toArray⟩):=own_cell hrow hvb (by rw [List.getElem?_map,hpc]; rfl)
    have hpos2:m.2.2.1[j] < ((st.rowAt m.2.1[j]).length:Int):=by omega
    have mixed:Tryz.prog.follows .mixedOrders=true:=by kernel_rfl
    clear hkc hac hE3 hrow hA2 hE hown
    go_wp2
    go_still_tail 13,(by kernel_rfl)
    change wpList _ _ _ _ _ wr.drew
    have hbx':BoxAt wr.drew (w.heap.size+1) (w.heap.size+1) [.slf 0 74,.own 5 1 (acc.map cU)]:=hbx.drew
    have hws:strings_Builder_WriteString 0 p acc=some ((p.length:Int),(),acc++p):=by
     unfold strings_Builder_WriteString
     rw [chk,if_pos (by omega)]
    have ws:=boxCall (al:=[.d (.str p)]) (us:=[strOf p]) (strings_Builder_WriteString_ok hws) rfl (show 2 < resSlot by decide) hbx'
    go_wp2_with (go_at_fn 31)
    refine ws.mono ?_
    rintro e w3 ⟨v,rfl,_,hb1,b3⟩
    clear ws hbx' hbx
    go_wp2
    obtain ⟨g',rfl⟩:∃ g',gk=g'+1:=⟨gk - 1,by omega⟩
    go_roundg g'
    case measure=>omega
    case rel=>exact ⟨j+1,acc++p,by omega,by first | rfl | exact congrArg (Value.int .i64) hwk,hbe.trans (Below.trans (Below.refl _ wr).drew b3),hb1,hL⟩
   ·have e:m.2.1.drop j=[]:=List.drop_eq_nil_of_le (by omega)
    rw [e] at hL
    unfold getLoop at hL
    cases hL
    have hrl:r.length≤9223372036854775807:=hrl0
    have bs:=boxCall (al:=[]) (us:=[]) (b_String (off:=0) (cs:=[.slf 0 74,.own 5 1 (r.map cU)]) (l:=r) hrl rfl (by kernel_rfl)) rfl (show 1 < resSlot by decide) hbx
    go_wp2_with (go_at_fn 32)
    refine bs.mono ?_
    rintro e w4 ⟨v',rfl,⟨S',β',hv'⟩,_,b4⟩
    have e4:v'=.string ⟨r.toArray⟩:=hv'
    subst e4
    go_wp2
    go_ret2
    exact ⟨rfl,b2.trans ((hbe.mono (Nat.le_succ _)).trans (b4.mono (Nat.le_succ _)))⟩
set_option maxRecDepth 100000 in
set_option maxHeartbeats 4000000 in
theorem Names_at {lo:Nat} {w:World} {A:ArV} {st:Ar} {F:Nat} {l:List (List UInt8)} (h:ArAt lo w A st) (hr:slices_Clone_string F st.O=some l) :
  Calls Tryz.prog 8 #[.pointer (some ⟨A.a,0,none⟩)] w fun e w'=>∃ v,e=.returned v∧OwnAt (fun _=>False) w' v 9 1 (l.map cS)∧Below w.heap.size w w':=by
 obtain ⟨_,_,c2,_⟩:=h.cells
 have hc:Calls Tryz.prog 29 #[A.ov] w fun e w'=>∃ v,e=.returned v∧OwnAt (fun _=>False) w' v 9 1 (l.map cS)∧Below w.heap.size w w':=by
  refine (belowGs (gs:=[]) (us:=[A.ov]) (slices_Clone_string_ok hr) rfl (show 1 < resSlot by decide) rfl ⟨own_data h.ord,trivial⟩ (by simp)).mono ?_
  rintro e W' ⟨v,S',β',rfl,hv,hb,_⟩
  exact ⟨v,rfl,strs_own hv.2,hb⟩
 go_enter Tryz.func8,Tryz.ntmps8
 go_wp2_with (go_at_fn 29)
 refine hc.mono ?_
 rintro e w' ⟨v,rfl,h1,h2⟩
 go_wp2
 go_ret
 exact ⟨v,rfl,h1,h2⟩
end Go.Vm.ArzG
