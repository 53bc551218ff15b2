/-
  The law of ArchiveLoad,walked.
-/
import Derived.Test.YtflaiaeofndgmaaGreatDoorArWm
namespace Go.Vm.ArzG
open Go.Proofs
open Go.RowKit Go.Shelf Go.Vm.ArzM
set_option maxRecDepth 100000 in
set_option maxHeartbeats 4000000 in
theorem law_big {W:World} (hl:Laid W) {s:List UInt8} (hs:2097152 < s.length):Calls Tryz.prog 3 #[strOf s] W fun e w'=>e=.returned (.bool true)∧Below W.heap.size W w':=by
 have hs':=len_gt hs
 have hf:=fact_at W hl.tbl
 unfold strOf
 go_enter Tryz.func3,Tryz.ntmps3
 go_wp2_with (go_at_fn 4)
 refine hf.mono ?_
 rintro e w1 ⟨rfl,hb1⟩
 go_wp2_with (go_at_fn 5)
 refine (Load_big hs).mono ?_
 rintro e w2 ⟨rfl,hb2⟩
 go_wp2
 go_ret
 exact ⟨rfl,Below.next hb1 hb2 hb1.size⟩
set_option maxRecDepth 100000 in
set_option maxHeartbeats 4000000 in
theorem law_at {W:World} (hl:Laid W) {s:List UInt8} {F n:Nat} {st:Ar} {ld:Ld} {names data missing:List (List UInt8)} (hs:¬ 2097152 < s.length) (hL:loadLoop F n s ⟨[],[],[]⟩ ⟨[],[]⟩=some (st,ld)) (hS:ref3_Saved F s=some (names,data,missing))
  (hE:slices_Equal_string F ld.lost missing=some true) (hN:slices_Clone_string F st.O=some st.O) (hlen:st.O.length=names.length) (hso:slices_IsSorted_string F st.O=some true) (hd:data.length=names.length)
  (hG:∀ (i:Nat) (nm dt:List UInt8),names[i]? = some nm→data[i]? = some dt→getF st nm=some (dt,0)) (hn9:names.length≤1000000000):Calls Tryz.prog 3 #[strOf s] W fun e w'=>e=.returned (.bool true)∧Below W.heap.size W w':=by
 have hs':=len_le hs
 have hf:=fact_at W hl.tbl
 unfold strOf
 go_enter Tryz.func3,Tryz.ntmps3
 go_wp2_with (go_at_fn 4)
 refine hf.mono ?_
 rintro e w1 ⟨rfl,hb1⟩
 have hl1:=hl.next hb1
 go_wp2_with (go_at_fn 5)
 refine (Load_at hl1 hs hL).mono ?_
 rintro e w2 ⟨A,L,rfl,h2,hb2⟩
 have hB2:=Below.next hb1 hb2 hb1.size
 go_wp2_with (go_at_fn 6)
 refine (Saved_at hS).mono ?_
 rintro e w3 ⟨u,v,z,rfl,hu,hv,hz,hb3⟩
 have hB3:=Below.next hB2 hb3 hB2.size
 have h3:=h2.keep hb3 (Nat.le_refl _)
 have hq:=Equal_at (own_strs h3.lrow) (own_data hz) hE
 go_wp2_with (go_at_fn 7)
 refine hq.mono ?_
 rintro e w4 ⟨rfl,hb4⟩
 have hB4:=Below.next hB3 hb4 hB3.size
 have h4:=h3.at_.keep hb4 (Nat.le_refl _)
 have hu4:=own_next hu hb4
 have hv4:=own_next hv hb4
 clear hq hz hu hv h3 h2
 go_wp2_with (go_at_fn 8)
 refine (Names_at h4 hN).mono ?_
 rintro e w5 ⟨x,rfl,hx,hb5⟩
 have hB5:=Below.next hB4 hb5 hB4.size
 have h5:=h4.keep hb5 (Nat.le_refl _)
 have hu5:=own_next hu4 hb5
 have hv5:=own_next hv4 hb5
 obtain ⟨xq,xc,hxl⟩:=own_len hx
 subst hxl
 obtain ⟨uq,uc,hul,hucell⟩:=own_str hu5
 subst hul
 rw [hlen]
 clear hu4 hv4 h4 hx
 go_wp2_with (go_at_fn 8)
 refine (Names_at h5 hN).mono ?_
 rintro e w6 ⟨y,rfl,hy,hb6⟩
 have hB6:=Below.next hB5 hb6 hB5.size
 have h6:=h5.keep hb6 (Nat.le_refl _)
 have hu6:=own_next hu5 hb6
 have hv6:=own_next hv5 hb6
 have hsr:=Sorted_at (own_data hy) hso
 clear hu5 hv5 h5 hucell
 go_wp2_with (go_at_fn 9)
 refine hsr.mono ?_
 rintro e w7 ⟨rfl,hb7⟩
 have hB7:=Below.next hB6 hb7 hB6.size
 have h7:=h6.keep hb7 (Nat.le_refl _)
 have hu7:=own_next hu6 hb7
 have hv7:=own_next hv6 hb7
 clear hu6 hv6 h6 hsr hy
 go_wp2
 obtain ⟨uq',uc',hul,huc⟩:=own_str hu7
 cases hul
 obtain ⟨vq,vc,hvl,hvc⟩:=own_str hv7
 subst hvl
 rw [hd]
 have HU:Aside _:=huc
 have HV:Aside _:=hvc
 have HA:Aside _:=h7
 have HG:Aside _:=hG
 have HB:Aside _:=hB7
 clear huc hvc h7 hG hB7 hB6 hB5 hB4 hB3 hB2 hu7 hv7 hf
 go_loopg [65] (names.length) (fun g v65 wx=>∃ j:Nat,g+j=names.length∧v65=.int .i64 (j:Int)∧Below w7.heap.size w7 wx)
 case atStart=>exact ⟨0,by omega,rfl,Below.refl _ _⟩
 case round =>
  obtain ⟨j,hgj,rfl,hbe⟩:=hrel
  by_cases hj:j < names.length
  ·have hwk:=wrap_succ hj hn9
   have hj2:j < data.length:=by rw [hd]; exact hj
   obtain ⟨b,off,rfl,g1,g2⟩:=HU.out j _ (List.getElem?_eq_getElem hj)
   have c1:wr.cell? ⟨b,off+j,none⟩=some (.string ⟨names[j].toArray⟩):=(World.cell?_of_block (a:=⟨b,off+j,none⟩) (hbe.block b g1)).trans g2
   obtain ⟨b',off',rfl,g3,g4⟩:=HV.out j _ (List.getElem?_eq_getElem hj2)
   have hA:ArAt w1.heap.size wr A st:=HA.out.keep hbe (Nat.le_refl _)
   have hgt:=Get_at hA (HG.out j _ _ (List.getElem?_eq_getElem hj) (List.getElem?_eq_getElem hj2))
   go_wp2_with (go_at_fn 10)
   refine hgt.mono ?_
   rintro e w8 ⟨rfl,hb8⟩
   have hbe8:Below w7.heap.size w7 w8:=Below.next hbe hb8 hbe.size
   have c2:w8.cell? ⟨b',off'+j,none⟩=some (.string ⟨data[j].toArray⟩):=(World.cell?_of_block (a:=⟨b',off'+j,none⟩) (hbe8.block b' g3)).trans g4
   have hdd:(data.length:Int)=(names.length:Int):=by rw [hd]
   unfold strOf
   go_wp2
   obtain ⟨g',rfl⟩:∃ g',gk=g'+1:=⟨gk - 1,gk_succ hgj hj⟩
   go_roundg g'
   case measure=>exact Nat.lt_succ_self _
   case rel=>exact ⟨j+1,gk_next hgj,by first | rfl | exact congrArg (Value.int .i64) hwk,hbe8⟩
  ·go_wp2
   go_ret
   exact ⟨rfl,Below.next HB.out hbe HB.out.size⟩
end Go.Vm.ArzG
