/-
  archive.Put: data are stored under a new name.
-/
import Derived.Test.YtflaiaeofndgmaaGreatDoorArWc
import Derived.Test.YtflaiaeofndgmaaGreatDoorArI
import Derived.Deep.LoopGhost
namespace Go.Vm.ArzG
open Go.Proofs
open Go.RowKit Go.Shelf Go.Vm.ArzM
/-- What a round hands on. -/
def HandJ (N:Nat) (Rel:Nat→(Nat→Value)→World→Prop) (g:Nat) (a:Act) (w:World):Prop:=∃ g',g' < g∧∃ J:Nat→Value,a=⟨((List.range N).map J).toArray,[]⟩∧Rel g' J w
theorem arr_J {N:Nat} {t:Array Value} (hN:t.size=N):t=((List.range N).map fun i=>t.getD i undef).toArray:=by
 apply Array.ext'
 apply List.ext_getElem?
 intro i
 rcases Nat.lt_or_ge i N with hi | hi
 ·rw [List.getElem?_map,List.getElem?_range hi,Array.getElem?_toList,Array.getElem?_eq_getElem (by omega),Option.map_some,Array.getD_eq_getD_getElem?,Array.getElem?_eq_getElem (by omega)]
  rfl
 ·rw [List.getElem?_eq_none (by simpa [hN] using hi),List.getElem?_eq_none (by simpa using hi)]
theorem HandJ.of {N:Nat} {Rel:Nat→(Nat→Value)→World→Prop} {g:Nat} {t:Array Value} {w:World} (hN:t.size=N) (g':Nat) (hg:g' < g) (h:Rel g' (fun i=>t.getD i undef) w):HandJ N Rel g ⟨t,[]⟩ w :=
 ⟨g',hg,_,by rw [← arr_J hN],h⟩
theorem loopJ {P:Program} {c:Code} {Q:Exit→Act→World→Prop} {N:Nat} (Rel:Nat→(Nat→Value)→World→Prop) (g:Nat) {t:Array Value} {w:World} (hN:t.size=N) (h0:Rel g (fun i=>t.getD i undef) w)
  (hs:∀ g J w,Rel g J w→c.wp P (Exit.then (HandJ N Rel g) Q) ⟨((List.range N).map J).toArray,[]⟩ w):(Code.loop c).wp P Q ⟨t,[]⟩ w:=by
 have key:∀ n g J w,g < n→Rel g J w→Code.rounds P c Q n ⟨((List.range N).map J).toArray,[]⟩ w:=by
  intro n
  induction n with
  | zero=>exact fun g _ _ h=>absurd h (Nat.not_lt_zero _)
  | succ n ih =>
   intro g J w hg hr
   rw [rounds_succ]
   refine wp_mono (hs g J w hr) fun e a w h=>?_
   cases e with
   | normal =>
    obtain ⟨g',h1,J',rfl,h2⟩:=h
    exact ih g' J' w (by omega) h2
   | _=>exact h
 refine wp_loop_rounds (g+1) ?_
 rw [arr_J hN]
 exact key _ g _ w (Nat.lt_succ_self _) h0
/-- The pieces of data are kept. -/
def putLoop (F:Nat):List Int→List UInt8→Ar→List Int→List Int→Option (Ar×List Int×List Int)
 | [],_,st,ks,ia=>some (st,ks,ia)
 | n :: r,s,st,ks,ia=>if 0≤n∧n.toNat≤s.length∧s.length≤1000000∧ks.length≤1000000∧ia.length≤1000000 then
   (filter_Sum F (s.take n.toNat)).bind fun k=>(slices_Index_string F (st.rowAt k) (s.take n.toNat)).bind fun i =>
    if (st.rowAt k).length≤1000000 then putLoop F r (s.drop n.toNat) (keepTo st k i (s.take n.toNat)).2 (ks++[k]) (ia++[(keepTo st k i (s.take n.toNat)).1]) else none
  else none
/-- What Put answers and makes. -/
def putF (F:Nat) (st:Ar) (name s:List UInt8):Option (Int×Ar) :=
 (archive_Cuts F s).bind fun le=>if le.2≠0 then some (le.2,st) else
 (archive_plain F name).bind fun p=>if p=false then some (6,st) else
 (slices_BinarySearch_string F st.O name).bind fun f=>if f.2=true then some (7,st) else
 if st.O.length=64 then some (16,st) else
 (putLoop F le.1 s st [] []).bind fun t=>if pos (t.1.N.map (·.1)) name=none∧0≤f.1∧f.1.toNat≤t.1.O.length∧t.1.O.length≤1000000∧le.1.length≤1000000∧s.length≤1000000 then
  some (0,{ t.1.putN name t.2.1 t.2.2 (s.length:Int) with O:=t.1.O.take f.1.toNat++name :: t.1.O.drop f.1.toNat }) else none
theorem str_ext (s:List UInt8) (a b:Nat):((⟨s.toArray⟩:ByteArray).extract a b)=⟨((s.take b).drop a).toArray⟩:=by
 apply ByteArray.ext
 simp only [ByteArray.data_extract,List.extract_toArray,List.extract_eq_take_drop,List.drop_take]
theorem str_take (s:List UInt8) (n:Nat):Value.string ((⟨s.toArray⟩:ByteArray).extract 0 n)=strOf (s.take n):=by rw [str_ext]; rfl
theorem str_drop (s:List UInt8) (n:Nat):Value.string ((⟨s.toArray⟩:ByteArray).extract n s.length)=strOf (s.drop n):=by rw [str_ext,List.take_length]; rfl
theorem ArAt.ovLen {lo:Nat} {w:World} {A:ArV} {st:Ar} (h:ArAt lo w A st):∃ q c,A.ov=.slice q st.O.length c:=by
 rcases h.ord with ⟨h1,h2⟩ | ⟨b,off,c,arr,E,fz,h1,_⟩
 ·exact ⟨none,0,by rw [h1,List.map_eq_nil_iff.1 h2]; rfl⟩
 ·exact ⟨_,c,by rw [h1,List.length_map]⟩
theorem own_lit {S:Nat→Prop} {w:World} {u:Value} {e:TypeId} {sz:Nat} {es:List (List Dat)} (h:OwnAt S w u e sz es):∃ q n c,u=.slice q n c:=by
 rcases h with ⟨h,_⟩ | ⟨b,off,c,arr,E,fz,h,_⟩
 ·exact ⟨_,_,_,h⟩
 ·exact ⟨_,_,_,h⟩
theorem len_ne64 {n:Nat} (h:¬ n=64):¬ (n:Int)=64:=by omega
theorem ent_new (w:World) (n:Int):EntAt (w.alloc (.cells #[.slice none 0 0,.slice none 0 0,.int .i64 n] 69)) w.heap.size (.slice none 0 0) (.slice none 0 0) [] [] n :=
 ⟨⟨69,heap_alloc_new w _⟩,.inl ⟨rfl,rfl⟩,.inl ⟨rfl,rfl⟩,(fun h=>by cases h),(fun h=>by cases h),(fun b h=>by cases h)⟩
theorem putLoop_same {F:Nat}:∀ {l:List Int} {s:List UInt8} {st:Ar} {ks ia:List Int} {t:Ar×List Int×List Int},putLoop F l s st ks ia=some t→t.1.O=st.O∧t.1.N=st.N
 | [],s,st,ks,ia,t,h=>by
  cases h
  exact ⟨rfl,rfl⟩
 | n :: r,s,st,ks,ia,t,h=>by
  unfold putLoop at h
  split at h
  case isFalse=>cases h
  rw [Option.bind_eq_some_iff] at h
  obtain ⟨k,_,h⟩:=h
  rw [Option.bind_eq_some_iff] at h
  obtain ⟨i,_,h⟩:=h
  split at h
  case isFalse=>cases h
  obtain ⟨h1,h2⟩:=putLoop_same h
  rw [h1,h2]
  unfold keepTo
  split <;> exact ⟨rfl,rfl⟩
/-- The loop of Put. -/
structure PL (W0 w3:World) (A0:ArV) (st0:Ar) (wx:World) (A:ArV) (st:Ar) (X:Nat) (kv av:Value) (ks ia:List Int) (n:Int):Prop where
 eqa:A.a=A0.a
 at_:ArAt W0.heap.size wx A st
 ent:EntAt wx X kv av ks ia n
 dis:∀ b,EO X kv av b→¬ st.Own A b
 low:∀ b,EO X kv av b→W0.heap.size≤b
 mv:Mv w3 wx (fun b=>st0.Own A0 b∨b=X) (fun b=>st.Own A b∨EO X kv av b)
 size:W0.heap.size≤wx.heap.size
 below:Below W0.heap.size W0 wx
section
variable {W0 w3 wx w':World} {A0 A:ArV} {st0 st st':Ar} {X:Nat} {kv av kv' av':Value} {ks ia ks' ia':List Int} {n:Int}
theorem PL.keep {pv':Nat→Value} (h:PL W0 w3 A0 st0 wx A st X kv av ks ia n) (h1:ArAt W0.heap.size w' { A with pv:=pv' } st') (m:Mv wx w' (st.Own A) (st'.Own { A with pv:=pv' })):PL W0 w3 A0 st0 w' { A with pv:=pv' } st' X kv av ks ia n:=by
 have hm:Mv wx w' (fun b=>st.Own A b∨EO X kv av b) (fun b=>st'.Own { A with pv:=pv' } b∨EO X kv av b):=m.weak (fun b hb=>.inl hb) fun b hb=>hb.imp id fun h=>.inl (.inr h)
 refine ⟨h.eqa,h1,h.ent.next fun b hb=>m.block b (h.ent.lt hb) (h.dis b hb),fun b hb ho=>?_,h.low,h.mv.trans hm,Nat.le_trans h.size m.size,?_⟩
 ·rcases m.own b ho with h2 | h2
  ·exact h.dis b hb h2
  ·have:=h.ent.lt hb
   omega
 ·exact h.below.trans (m.below (fun b hb=>h.at_.from_ b hb) h.size)
theorem PL.step (h:PL W0 w3 A0 st0 wx A st X kv av ks ia n) (h1:EntAt w' X kv' av' ks' ia' n) (m:Mv wx w' (EO X kv av) (EO X kv' av')):PL W0 w3 A0 st0 w' A st X kv' av' ks' ia' n:=by
 have hm:Mv wx w' (fun b=>st.Own A b∨EO X kv av b) (fun b=>st.Own A b∨EO X kv' av' b):=m.weak (fun b hb=>.inr hb) fun b hb=>by
  rcases hb with hb | hb
  ·exact .inr (.inl (.inl hb))
  ·exact .inl hb
 refine ⟨h.eqa,h.at_.next fun b hb=>m.block b (h.at_.lt hb) fun he=>h.dis b he hb,h1,fun b hb ho=>?_,fun b hb=>?_,h.mv.trans hm,Nat.le_trans h.size m.size,?_⟩
 ·rcases m.own b hb with h2 | h2
  ·exact h.dis b h2 ho
  ·have:=h.at_.lt ho
   omega
 ·rcases m.own b hb with h2 | h2
  ·exact h.low b h2
  ·have:=h.size
   omega
 ·exact h.below.trans (m.below h.low h.size)
end
set_option maxRecDepth 100000 in
set_option maxHeartbeats 4000000 in
theorem Put_at {W0 w:World} {A:ArV} {st st':Ar} {name s:List UInt8} {e0:Int} {F:Nat} (h0:Below W0.heap.size W0 w) (hg:Tbl W0) (h:ArAt W0.heap.size w A st) (hr:putF F st name s=some (e0,st')) :
  Calls Tryz.prog 12 #[.pointer (some ⟨A.a,0,none⟩),strOf name,strOf s] w fun e w'=>e=.returned (.int .i64 e0)∧∃ A',A'.a=A.a∧ArAt W0.heap.size w' A' st'∧Mv w w' (st.Own A) (st'.Own A'):=by
 unfold putF at hr
 rw [Option.bind_eq_some_iff] at hr
 obtain ⟨⟨l,e1⟩,hC,hr⟩:=hr
 dsimp only at hr
 unfold strOf
 go_enter Tryz.func12,Tryz.ntmps12
 go_wp2_with (go_at_fn 13)
 refine (Cuts_at w hC).mono ?_
 rintro e w1 ⟨v,rfl,⟨q,c,rfl,hq⟩,hb1⟩
 have h1:=h.keep hb1 (Nat.le_refl _)
 have m1:Mv w w1 (st.Own A) (st.Own A):=Mv.of hb1
 by_cases he:e1=0
 case neg =>
  rw [if_pos he] at hr
  cases hr
  go_wp2
  go_ret
  exact ⟨rfl,A,rfl,h1,m1⟩
 subst he
 rw [if_neg (fun h=>h rfl),Option.bind_eq_some_iff] at hr
 obtain ⟨p,hP,hr⟩:=hr
 have hs1:W0.heap.size≤w1.heap.size:=Nat.le_trans h0.size hb1.size
 have HQ:Aside (l≠[]→∃ b off,q=some ⟨b,off,none⟩∧w.heap.size≤b∧b < w1.heap.size∧∀ i x,l[i]? = some x→w1.cell? ⟨b,off+i,none⟩=some (.int .i64 x)):=hq
 clear hq
 go_wp2_with (go_at_fn 33)
 refine (plain_at w1 hP).mono ?_
 rintro e w2 ⟨rfl,hb2⟩
 have h2:=h1.keep hb2 (Nat.le_refl _)
 have m2:Mv w w2 (st.Own A) (st.Own A):=m1.trans (Mv.of hb2)
 have hs2:W0.heap.size≤w2.heap.size:=Nat.le_trans hs1 hb2.size
 cases p
 case false =>
  rw [if_pos rfl] at hr
  cases hr
  go_wp2
  go_ret
  exact ⟨rfl,A,rfl,h2,m2⟩
 rw [if_neg (fun h=>by cases h),Option.bind_eq_some_iff] at hr
 obtain ⟨⟨i,f⟩,hB,hr⟩:=hr
 dsimp only at hr
 obtain ⟨_,_,c2,_⟩:=h2.cells
 go_wp2_with (go_at_fn 34)
 refine (Search_at h2.ord hB).mono ?_
 rintro e w3 ⟨rfl,hb3⟩
 have h3:=h2.keep hb3 (Nat.le_refl _)
 have m3:Mv w w3 (st.Own A) (st.Own A):=m2.trans (Mv.of hb3)
 have hs3:W0.heap.size≤w3.heap.size:=Nat.le_trans hs2 hb3.size
 clear c2
 obtain ⟨_,_,c2,_⟩:=h3.cells
 cases f
 case true =>
  rw [if_pos rfl] at hr
  cases hr
  go_wp2
  go_ret
  exact ⟨rfl,A,rfl,h3,m3⟩
 rw [if_neg (fun h=>by cases h)] at hr
 obtain ⟨oq,oc,hov⟩:=h3.ovLen
 rw [hov] at c2
 by_cases h64:st.O.length=64
 ·rw [if_pos h64] at hr
  cases hr
  rw [h64] at c2
  go_wp2
  go_ret
  exact ⟨rfl,A,rfl,h3,m3⟩
 rw [if_neg h64,Option.bind_eq_some_iff] at hr
 obtain ⟨t,hL,hr⟩:=hr
 have h64':=len_ne64 h64
 split at hr
 case isFalse=>cases hr
 rename_i hfit
 cases hr
 go_wp2
 have hsL:=putLoop_same hL
 have hP0:PL W0 (w3.alloc (Obj.cells #[Value.slice none 0 0,Value.slice none 0 0,Value.int IntKind.i64 (s.length:Int)] 69)) A st (w3.alloc (Obj.cells #[Value.slice none 0 0,Value.slice none 0 0,Value.int IntKind.i64 (s.length:Int)] 69)) A st w3.heap.size (.slice none 0 0) (.slice none 0 0) [] [] (s.length:Int):=by
  refine ⟨rfl,h3.alloc _,ent_new w3 _,fun b hb ho=>?_,fun b hb=>?_,⟨rfl,rfl,rfl,Nat.le_refl _,fun _ _ _=>rfl,fun b hb=>?_⟩,by rw [World.size_alloc]; omega,?_⟩
  ·rcases hb with rfl | hb | hb
   ·exact absurd (h3.lt ho) (Nat.lt_irrefl _)
   ·cases hb
   ·cases hb
  ·rcases hb with rfl | hb | hb
   ·exact hs3
   ·cases hb
   ·cases hb
  ·rcases hb with hb | rfl | hb | hb
   ·exact .inl (.inl hb)
   ·exact .inl (.inr rfl)
   ·cases hb
   ·cases hb
  ·exact ((h0.trans (hb1.mono h0.size)).trans (hb2.mono hs1)).trans (hb3.mono hs2) |>.trans (((Below.refl _ _).alloc (Nat.le_refl _) _).mono hs3)
 have hQ3:Aside (∀ (j:Nat) (x:Int),l[j]? = some x→∃ b off,q=some ⟨b,off,none⟩∧b < w3.heap.size∧¬ st.Own A b∧w3.cell? ⟨b,off+j,none⟩=some (.int .i64 x)):=fun j x hx=>by
  obtain ⟨b,off,e,g1,g2,g3⟩:=HQ.out (fun e=>by rw [e] at hx; simp at hx)
  have g4:=Nat.lt_of_lt_of_le g2 hb2.size
  refine ⟨b,off,e,Nat.lt_of_lt_of_le g4 hb3.size,fun ho=>?_,?_⟩
  ·have:=h.lt ho
   omega
  ·rw [World.cell?_of_block ((hb3.block b g4).trans (hb2.block b g2))]
   exact g3 j x hx
 have hm3:Aside (Mv w (w3.alloc (Obj.cells #[Value.slice none 0 0,Value.slice none 0 0,Value.int IntKind.i64 (s.length:Int)] 69)) (st.Own A) (fun b=>st.Own A b∨b=w3.heap.size)):=by
  have:=m3.trans (Mv.of ((Below.refl w3.heap.size _).alloc (Nat.le_refl _) (Obj.cells #[Value.slice none 0 0,Value.slice none 0 0,Value.int IntKind.i64 (s.length:Int)] 69)))
  exact ⟨this.os,this.tape,this.output,this.size,this.block,fun b hb=>hb.imp id fun e=>by rw [e]; exact m3.size⟩
 have HF:Aside _:=hfit
 have HL:Aside _:=hL
 have HS:Aside _:=hsL
 have hQ4:Aside (∀ wx,Mv (w3.alloc (Obj.cells #[Value.slice none 0 0,Value.slice none 0 0,Value.int IntKind.i64 (s.length:Int)] 69)) wx (fun b=>st.Own A b∨b=w3.heap.size) (fun _=>False)→∀ (j:Nat) (x:Int),l[j]? = some x→∃ b off,q=some ⟨b,off,none⟩∧wx.cell? ⟨b,off+j,none⟩=some (.int .i64 x)):=fun wx hm j x hx=>by
  obtain ⟨b,off,e,g1,g2,g3⟩:=hQ3.out j x hx
  refine ⟨b,off,e,?_⟩
  rw [World.cell?_of_block (hm.block b (by rw [World.size_alloc]; exact Nat.lt_succ_of_lt g1) (fun ho=>ho.elim g2 fun e=>by omega)),World.cell?_of_block (Below.heap_alloc _ _ _ g1)]
  exact g3
 clear hQ3 HQ hfit hL hsL hC hP hB h1 h2 h3 m1 m2 m3 hb1 hb2 hb3 c2 hov
 revert hP0 hm3 hQ4
 generalize w3.alloc _=w4
 generalize w3.heap.size=X at *
 intro hP0 hm3 hQ4
 refine loopJ (N:=93) (fun g J wx=>∃ (j:Nat) (s':List UInt8) (A':ArV) (st':Ar) (kv av:Value) (ks ia:List Int),g+j=l.length∧(J 0=.pointer (some ⟨A.a,0,none⟩)∧J 1=.string ⟨name.toArray⟩∧J 2=.string ⟨s'.toArray⟩∧J 6=.int .i64 0∧J 9=.int .i64 i∧J 11=.pointer (some ⟨X,0,none⟩) ∧
   J 46=.slice q l.length c∧J 47=.int .i64 (l.length:Int)∧J 48=.int .i64 (j:Int))∧PL W0 w4 A st wx A' st' X kv av ks ia (s.length:Int)∧putLoop F (l.drop j) s' st' ks ia=some t) l.length rfl ?_ ?_
 ·exact ⟨0,s,A,st,_,_,[],[],by omega,⟨rfl,rfl,rfl,rfl,rfl,rfl,rfl,rfl,rfl⟩,hP0,HL.out⟩
 ·rintro g J wr ⟨j,s',A',st',kv,av,ks,ia,hgj,⟨j0,j1,j2,j6,j9,j11,j46,j47,j48⟩,hP,hL⟩
  have eJ:((List.range 93).map J).toArray=#[J 0,J 1,J 2,J 3,J 4,J 5,J 6,J 7,J 8,J 9,J 10,J 11,J 12,J 13,J 14,J 15,J 16,J 17,J 18,J 19,J 20,J 21,J 22,J 23,J 24,J 25,J 26,J 27,J 28,J 29,J 30,J 31,J 32,J 33,J 34,J 35,J 36,J 37,J 38,J 39,J 40,J 41,J 42,J 43,J 44,J 45,J 46,J 47,J 48,J 49,J 50,J 51,J 52,J 53,J 54,J 55,J 56,J 57,J 58,J 59,J 60,J 61,J 62,J 63,J 64,J 65,J 66,J 67,J 68,J 69,J 70,J 71,J 72,J 73,J 74,J 75,J 76,J 77,J 78,J 79,J 80,J 81,J 82,J 83,J 84,J 85,J 86,J 87,J 88,J 89,J 90,J 91,J 92]:=rfl
  rw [eJ,j11,j0,j1,j2,j6,j9,j46,j47,j48]
  clear eJ j11 j0 j1 j2 j6 j9 j46 j47 j48
  by_cases hj:j < l.length
  ·have hg1:g - 1 < g:=by omega
   have hg2:g - 1+(j+1)=l.length:=by omega
   have hwk:wrap64 ((j:Int)+1)=((j+1:Nat):Int):=by
    have:=HF.out.2.2.2.2.1
    unfold wrap64
    omega
   rw [List.drop_eq_getElem_cons hj] at hL
   unfold putLoop at hL
   split at hL
   case isFalse=>cases hL
   rename_i hb
   rw [Option.bind_eq_some_iff] at hL
   obtain ⟨k,hk,hL⟩:=hL
   rw [Option.bind_eq_some_iff] at hL
   obtain ⟨i1,hi1,hL⟩:=hL
   split at hL
   case isFalse=>cases hL
   rename_i hrow
   obtain ⟨b,off,rfl,hc⟩:=hQ4.out wr ⟨hP.mv.os,hP.mv.tape,hP.mv.output,hP.mv.size,hP.mv.block,fun _ h=>h.elim⟩ j _ (List.getElem?_eq_getElem hj)
   obtain ⟨hb0,hb1,hb2,hb3,hb4⟩:=hb
   go_wp2_with (go_at_fn 35)
   rw [str_take]
   have hkp:=keep_at hP.below hg hP.at_ hk hi1 hrow (by simp only [List.length_take]; omega)
   rw [hP.eqa] at hkp
   refine hkp.mono ?_
   clear hkp
   rintro e w5 ⟨rfl,pv',g1,g2⟩
   rw [← hP.eqa] at g1 g2
   have hP5:=hP.keep g1 g2
   clear hP g1 g2 hc
   revert hP5 hL
   generalize (keepTo st' k i1 (s'.take l[j].toNat)).1=i2
   generalize (keepTo st' k i1 (s'.take l[j].toNat)).2=st5
   intro hL hP5
   go_wp2
   have mixed:Tryz.prog.follows .mixedOrders=true:=by kernel_rfl
   have hp1:ks.length+([k]:List Int).length≤4294967296:=by simp only [List.length_singleton]; omega
   have hp2:ia.length+([i2]:List Int).length≤4294967296:=by simp only [List.length_singleton]; omega
   have hX5:=hP5.ent
   generalize hnn:(s.length:Int)=n at *
   let R:List (Nat×Value):=[(0,.pointer (some ⟨A.a,0,none⟩)),(1,.string ⟨name.toArray⟩),(2,.string ⟨s'.toArray⟩),(6,.int .i64 0),(9,.int .i64 i),(13,.int .i64 l[j]),(14,.int .u32 k),(15,.int .i64 i2),(46,.slice (some ⟨b,off,none⟩) l.length c),(47,.int .i64 (l.length:Int)),(48,.int .i64 (j:Int))]
   have hRn:∀ z∈R,z.1≠11∧z.1 < 93:=by
    intro z hz
    simp only [R,List.mem_cons,List.not_mem_nil,or_false] at hz
    rcases hz with rfl | rfl | rfl | rfl | rfl | rfl | rfl | rfl | rfl | rfl | rfl <;> (constructor <;> (dsimp only; decide))
   have hRd:(R.map (·.1)).Nodup:=(by decide:[0,1,2,6,9,13,14,15,46,47,48].Nodup)
   refine (?_:T Tryz.prog (envE w5 X kv av) 93 (.region 16 _ true) (frE ks ia n R) _) _ w5 (memE (N:=93) (r:=R) hX5 rfl rfl rfl ?_ (by decide))
   rotate_left
   ·intro z hz
    simp only [R,List.mem_cons,List.not_mem_nil,or_false] at hz
    rcases hz with rfl | rfl | rfl | rfl | rfl | rfl | rfl | rfl | rfl | rfl | rfl <;> exact ⟨rfl,rfl⟩
   refine T_drawX_end mixed 38 (.take 0 (.take 2 (.take 5 (.take 7 (.all (.alt 1 (.all (.alt 3 (.all (.alt 4 (.all (.alt 6 (.take 10 (.all (.alt 8 (.all (.alt 9 (.all (.alt 11 (.take 12 (.all (.alt 13 .done .stop))) .stop)) .stop)) .stop))) (.alt 8 (.take 6 (.take 10 (.all (.alt 9 (.all (.alt 11 (.take 12 (.all (.alt 13 .done .stop))) .stop)) .stop)))) .stop))) (.alt 6 (.all (.alt 4 (.take 10 (.all (.alt 8 (.all (.alt 9 (.all (.alt 11 (.take 12 (.all (.alt 13 .done .stop))) .stop)) .stop)) .stop))) (.alt 8 (.all (.alt 4 (.take 10 (.all (.alt 9 (.all (.alt 11 (.take 12 (.all (.alt 13 .done .stop))) .stop)) .stop))) .stop)) .stop))) (.alt 8 (.all (.alt 4 (.take 6 (.take 10 (.all (.alt 9 (.all (.alt 11 (.take 12 (.all (.alt 13 .done .stop))) .stop)) .stop)))) (.alt 6 (.all (.alt 4 (.take 10 (.all (.alt 9 (.all (.alt 11 (.take 12 (.all (.alt 13 .done .stop))) .stop)) .stop))) .stop)) .stop))) .stop)))) (.alt 6 (.all (.alt 3 (.all (.alt 4 (.take 10 (.all (.alt 8 (.all (.alt 9 (.all (.alt 11 (.take 12 (.all (.alt 13 .done .stop))) .stop)) .stop)) .stop))) (.alt 8 (.all (.alt 4 (.take 10 (.all (.alt 9 (.all (.alt 11 (.take 12 (.all (.alt 13 .done .stop))) .stop)) .stop))) .stop)) .stop))) (.alt 8 (.all (.alt 3 (.all (.alt 4 (.take 10 (.all (.alt 9 (.all (.alt 11 (.take 12 (.all (.alt 13 .done .stop))) .stop)) .stop))) .stop)) .stop)) .stop))) (.alt 8 (.all (.alt 3 (.all (.alt 4 (.take 6 (.take 10 (.all (.alt 9 (.all (.alt 11 (.take 12 (.all (.alt 13 .done .stop))) .stop)) .stop)))) (.alt 6 (.all (.alt 4 (.take 10 (.all (.alt 9 (.all (.alt 11 (.take 12 (.all (.alt 13 .done .stop))) .stop)) .stop))) .stop)) .stop))) (.alt 6 (.all (.alt 3 (.all (.alt 4 (.take 10 (.all (.alt 9 (.all (.alt 11 (.take 12 (.all (.alt 13 .done .stop))) .stop)) .stop))) .stop)) .stop)) .stop))) .stop)))) (.alt 3 (.all (.alt 1 (.all (.alt 4 (.all (.alt 6 (.take 10 (.all (.alt 8 (.all (.alt 9 (.all (.alt 11 (.take 12 (.all (.alt 13 .done .stop))) .stop)) .stop)) .stop))) (.alt 8 (.take 6 (.take 10 (.all (.alt 9 (.all (.alt 11 (.take 12 (.all (.alt 13 .done .stop))) .stop)) .stop)))) .stop))) (.alt 6 (.all (.alt 4 (.take 10 (.all (.alt 8 (.all (.alt 9 (.all (.alt 11 (.take 12 (.all (.alt 13 .done .stop))) .stop)) .stop)) .stop))) (.alt 8 (.all (.alt 4 (.take 10 (.all (.alt 9 (.all (.alt 11 (.take 12 (.all (.alt 13 .done .stop))) .stop)) .stop))) .stop)) .stop))) (.alt 8 (.all (.alt 4 (.take 6 (.take 10 (.all (.alt 9 (.all (.alt 11 (.take 12 (.all (.alt 13 .done .stop))) .stop)) .stop)))) (.alt 6 (.all (.alt 4 (.take 10 (.all (.alt 9 (.all (.alt 11 (.take 12 (.all (.alt 13 .done .stop))) .stop)) .stop))) .stop)) .stop))) .stop)))) (.alt 6 (.all (.alt 1 (.all (.alt 4 (.take 10 (.all (.alt 8 (.all (.alt 9 (.all (.alt 11 (.take 12 (.all (.alt 13 .done .stop))) .stop)) .stop)) .stop))) (.alt 8 (.all (.alt 4 (.take 10 (.all (.alt 9 (.all (.alt 11 (.take 12 (.all (.alt 13 .done .stop))) .stop)) .stop))) .stop)) .stop))) (.alt 8 (.take 1 (.all (.alt 4 (.take 10 (.all (.alt 9 (.all (.alt 11 (.take 12 (.all (.alt 13 .done .stop))) .stop)) .stop))) .stop))) .stop))) (.alt 8 (.take 1 (.all (.alt 4 (.take 6 (.take 10 (.all (.alt 9 (.all (.alt 11 (.take 12 (.all (.alt 13 .done .stop))) .stop)) .stop)))) (.alt 6 (.all (.alt 4 (.take 10 (.all (.alt 9 (.all (.alt 11 (.take 12 (.all (.alt 13 .done .stop))) .stop)) .stop))) .stop)) .stop)))) .stop)))) (.alt 6 (.all (.alt 1 (.all (.alt 3 (.all (.alt 4 (.take 10 (.all (.alt 8 (.all (.alt 9 (.all (.alt 11 (.take 12 (.all (.alt 13 .done .stop))) .stop)) .stop)) .stop))) (.alt 8 (.all (.alt 4 (.take 10 (.all (.alt 9 (.all (.alt 11 (.take 12 (.all (.alt 13 .done .stop))) .stop)) .stop))) .stop)) .stop))) (.alt 8 (.all (.alt 3 (.all (.alt 4 (.take 10 (.all (.alt 9 (.all (.alt 11 (.take 12 (.all (.alt 13 .done .stop))) .stop)) .stop))) .stop)) .stop)) .stop))) (.alt 3 (.all (.alt 1 (.all (.alt 4 (.take 10 (.all (.alt 8 (.all (.alt 9 (.all (.alt 11 (.take 12 (.all (.alt 13 .done .stop))) .stop)) .stop)) .stop))) (.alt 8 (.all (.alt 4 (.take 10 (.all (.alt 9 (.all (.alt 11 (.take 12 (.all (.alt 13 .done .stop))) .stop)) .stop))) .stop)) .stop))) (.alt 8 (.take 1 (.all (.alt 4 (.take 10 (.all (.alt 9 (.all (.alt 11 (.take 12 (.all (.alt 13 .done .stop))) .stop)) .stop))) .stop))) .stop))) (.alt 8 (.all (.alt 1 (.all (.alt 3 (.all (.alt 4 (.take 10 (.all (.alt 9 (.all (.alt 11 (.take 12 (.all (.alt 13 .done .stop))) .stop)) .stop))) .stop)) .stop)) (.alt 3 (.take 1 (.all (.alt 4 (.take 10 (.all (.alt 9 (.all (.alt 11 (.take 12 (.all (.alt 13 .done .stop))) .stop)) .stop))) .stop))) .stop))) .stop)))) (.alt 8 (.all (.alt 1 (.all (.alt 3 (.all (.alt 4 (.take 6 (.take 10 (.all (.alt 9 (.all (.alt 11 (.take 12 (.all (.alt 13 .done .stop))) .stop)) .stop)))) (.alt 6 (.all (.alt 4 (.take 10 (.all (.alt 9 (.all (.alt 11 (.take 12 (.all (.alt 13 .done .stop))) .stop)) .stop))) .stop)) .stop))) (.alt 6 (.all (.alt 3 (.all (.alt 4 (.take 10 (.all (.alt 9 (.all (.alt 11 (.take 12 (.all (.alt 13 .done .stop))) .stop)) .stop))) .stop)) .stop)) .stop))) (.alt 3 (.take 1 (.all (.alt 4 (.take 6 (.take 10 (.all (.alt 9 (.all (.alt 11 (.take 12 (.all (.alt 13 .done .stop))) .stop)) .stop)))) (.alt 6 (.all (.alt 4 (.take 10 (.all (.alt 9 (.all (.alt 11 (.take 12 (.all (.alt 13 .done .stop))) .stop)) .stop))) .stop)) .stop)))) (.alt 6 (.all (.alt 1 (.all (.alt 3 (.all (.alt 4 (.take 10 (.all (.alt 9 (.all (.alt 11 (.take 12 (.all (.alt 13 .done .stop))) .stop)) .stop))) .stop)) .stop)) (.alt 3 (.take 1 (.all (.alt 4 (.take 10 (.all (.alt 9 (.all (.alt 11 (.take 12 (.all (.alt 13 .done .stop))) .stop)) .stop))) .stop))) .stop))) .stop)))) .stop))))))))) ([0,1,0,4,10,0,32,0,128,336,127,1663,4095,8191],[0,1,0,4,10,0,32,0,128,320,0,1040,0,4608]) 5351 [(3,{ es:=some (([k]:List Int).map (cI .u32)) }),(4,{ es:=some ((ks++[k]).map (cI .u32)) }),(8,{ es:=some (([i2]:List Int).map (cI .i64)) }),(9,{ es:=some ((ia++[i2]).map (cI .i64)) })] [virtBase,11,0,1,2,6,9,13,14,15,46,47,48] [] (frE (ks++[k]) (ia++[i2]) n R) ((fun (o3:Prop)=>fun (o4:Prop)=>fun (o8:Prop)=>fun (o9:Prop)=>[(5,o3),(0,o4),(2,o8),(0,o9),(3,o8),(2,o9),(4,o4),(1,o8),(0,o9),(3,o8),(0,o4),(1,o9),(3,o8),(0,o4),(2,o9),(4,o4),(1,o9),(4,o3),(0,o4),(1,o8),(0,o9),(3,o8),(0,o4),(1,o9),(3,o8),(0,o3),(0,o4),(1,o9),(3,o8),(0,o3),(0,o4),(2,o9),(4,o4),(1,o9),(4,o3),(0,o4),(1,o9),(3,o3),(1,o4),(2,o8),(0,o9),(3,o8),(2,o9),(4,o4),(1,o8),(0,o9),(3,o8),(0,o4),(1,o9),(3,o8),(0,o4),(2,o9),(4,o4),(1,o9),(5,o4),(1,o8),(0,o9),(3,o8),(0,o4),(1,o9),(3,o8),(1,o4),(1,o9),(3,o8),(1,o4),(2,o9),(4,o4),(1,o9),(5,o3),(0,o4),(1,o8),(0,o9),(3,o8),(0,o4),(1,o9),(3,o8),(0,o3),(0,o4),(1,o9),(3,o3),(1,o4),(1,o8),(0,o9),(3,o8),(0,o4),(1,o9),(3,o8),(1,o4),(1,o9),(3,o8),(1,o3),(0,o4),(1,o9),(3,o3),(1,o4),(1,o9),(3,o8),(1,o3),(0,o4),(2,o9),(4,o4),(1,o9),(4,o3),(0,o4),(1,o9),(3,o3),(1,o4),(2,o9),(4,o4),(1,o9),(5,o3),(0,o4),(1,o9),(3,o3),(1,o4),(1,o9)]) ((([k]:List Int).map (cI .u32))=(([k]:List Int).map (cI .u32))) ((ks.map (cI .u32)).length+(([k]:List Int).map (cI .u32)).length≤4294967296∧(ks.map (cI .u32))++(([k]:List Int).map (cI .u32))=((ks++[k]).map (cI .u32))) ((([i2]:List Int).map (cI .i64))=(([i2]:List Int).map (cI .i64))) ((ia.map (cI .i64)).length+(([i2]:List Int).map (cI .i64)).length≤4294967296∧(ia.map (cI .i64))++(([i2]:List Int).map (cI .i64))=((ia++[i2]).map (cI .i64)))) 3 (by kernel_rfl) (by kernel_rfl) (by kernel_rfl) (have p3:=rfl; have p4:(ks.map (cI .u32)).length+(([k]:List Int).map (cI .u32)).length≤4294967296∧(ks.map (cI .u32))++(([k]:List Int).map (cI .u32))=((ks++[k]).map (cI .u32)):=app_ok (cI .u32) hp1; have p8:=rfl; have p9:(ia.map (cI .i64)).length+(([i2]:List Int).map (cI .i64)).length≤4294967296∧(ia.map (cI .i64))++(([i2]:List Int).map (cI .i64))=((ia++[i2]).map (cI .i64)):=app_ok (cI .i64) hp2; ⟨p3,p4,p8,p9,p8,p9,p4,p8,p9,p8,p4,p9,p8,p4,p9,p4,p9,p3,p4,p8,p9,p8,p4,p9,p8,p3,p4,p9,p8,p3,p4,p9,p4,p9,p3,p4,p9,p3,p4,p8,p9,p8,p9,p4,p8,p9,p8,p4,p9,p8,p4,p9,p4,p9,p4,p8,p9,p8,p4,p9,p8,p4,p9,p8,p4,p9,p4,p9,p3,p4,p8,p9,p8,p4,p9,p8,p3,p4,p9,p3,p4,p8,p9,p8,p4,p9,p8,p4,p9,p8,p3,p4,p9,p3,p4,p9,p8,p3,p4,p9,p4,p9,p3,p4,p9,p3,p4,p9,p4,p9,p3,p4,p9,p3,p4,p9⟩) ?_
   intro a5 w6 hm5
   obtain ⟨hd5,hN5,hr5,kv',av',h115,hE6,hM6⟩:=outE hm5 hRn (by decide) (by decide) hRd
   have hP6:=hP5.step hE6 hM6
   obtain ⟨tm,df⟩:=a5
   obtain ⟨J',rfl,hJ⟩:=lit93 tm hN5
   have hd5':df=[]:=hd5
   subst hd5'
   have j11:=hJ 11 _ h115
   have hJr:∀ z∈R,J' z.1=z.2:=fun z hz=>hJ _ _ (hr5 z hz)
   simp only [R,List.forall_mem_cons] at hJr
   obtain ⟨j0,j1,j2,j6,j9,j13,j14,j15,j46,j47,j48,_⟩:=hJr
   have eJ:((List.range 93).map J').toArray=#[J' 0,J' 1,J' 2,J' 3,J' 4,J' 5,J' 6,J' 7,J' 8,J' 9,J' 10,J' 11,J' 12,J' 13,J' 14,J' 15,J' 16,J' 17,J' 18,J' 19,J' 20,J' 21,J' 22,J' 23,J' 24,J' 25,J' 26,J' 27,J' 28,J' 29,J' 30,J' 31,J' 32,J' 33,J' 34,J' 35,J' 36,J' 37,J' 38,J' 39,J' 40,J' 41,J' 42,J' 43,J' 44,J' 45,J' 46,J' 47,J' 48,J' 49,J' 50,J' 51,J' 52,J' 53,J' 54,J' 55,J' 56,J' 57,J' 58,J' 59,J' 60,J' 61,J' 62,J' 63,J' 64,J' 65,J' 66,J' 67,J' 68,J' 69,J' 70,J' 71,J' 72,J' 73,J' 74,J' 75,J' 76,J' 77,J' 78,J' 79,J' 80,J' 81,J' 82,J' 83,J' 84,J' 85,J' 86,J' 87,J' 88,J' 89,J' 90,J' 91,J' 92]:=rfl
   rw [eJ,j11,j0,j1,j2,j6,j9,j13,j14,j15,j46,j47,j48]
   clear eJ hm5 hd5 hN5 hr5 h115 hJ j0 j1 j2 j6 j9 j13 j14 j15 j46 j47 j48 j11 hRn hRd hp1 hp2 R hE6 hM6 hP5 hX5
   go_wp2
   rw [str_drop]
   exact HandJ.of rfl (g - 1) hg1 ⟨j+1,s'.drop l[j].toNat,_,st5,kv',av',_,_,hg2,⟨rfl,rfl,rfl,rfl,rfl,rfl,rfl,rfl,congrArg (Value.int .i64) hwk⟩,by rw [hnn]; exact hP6,hL⟩
  ·have e:l.drop j=[]:=List.drop_eq_nil_of_le (by omega)
   rw [e] at hL
   cases hL
   go_wp2
   have mixed:Tryz.prog.follows .mixedOrders=true:=by kernel_rfl
   obtain ⟨hp0,hi0,hi1,hO1,_,_⟩:=HF.out
   have hd1:=hP.at_.drew
   have he1:EntAt wr.drew X kv av ks ia (s.length:Int):=hP.ent.next fun _ _=>rfl
   obtain ⟨_,y1,_,_⟩:=hd1.cells
   rw [hP.eqa] at y1
   obtain ⟨x0,x1,x2⟩:=he1.cells
   have mu:(Instr.mapUpdate 63 (.map (some A'.bn)) (.string ⟨name.toArray⟩) (.agg #[kv,av,.int .i64 (s.length:Int)])).run Tryz.prog wr.drew=_:=hd1.nm.put mtN name (.agg #[kv,av,.int .i64 (s.length:Int)])
   have hput:=hd1.putName he1 hp0 fun b hb=>⟨hP.dis b hb,hP.low b hb⟩
   clear hQ4
   go_region_with (fail)
   all_goals
    revert hput
    clear mu
    generalize setO wr.drew _ _=w6
    intro hput
    obtain ⟨h6,m6⟩:=hput
    obtain ⟨_,_,d2,d3⟩:=h6.cells
    have ea:(A'.a)=A.a:=hP.eqa
    dsimp only at d2 d3
    rw [ea] at d2 d3
    clear x0 x1 x2 y1 hd1 he1
    have h7:=h6.alloc (.cells #[strOf name] 9)
    have hb7:(w6.alloc (.cells #[strOf name] 9)).heap[w6.heap.size]? = some (.cells #[strOf name] 9 (0,0)):=heap_alloc_new w6 _
    have hne7:Go.Vm.blk A'.ov≠some w6.heap.size:=fun e=>by
     have:=h6.lt (b:=w6.heap.size) ⟨.o,e⟩
     exact Nat.lt_irrefl _ this
    have hI:=Insert_at (i:=i.toNat) hi1 (Nat.le_trans hO1 (by decide)) h7.ord hb7 hne7
    rw [Int.toNat_of_nonneg hi0] at hI
    go_wp2_with (go_at_fn 36)
    refine hI.mono ?_
    rintro e w8 ⟨u',rfl,hown8,hm8⟩
    obtain ⟨q9,n9,c9,rfl⟩:=own_lit hown8
    have hlo7:W0.heap.size≤(w6.alloc (.cells #[strOf name] 9)).heap.size:=by
     rw [World.size_alloc]
     exact Nat.le_succ_of_le (Nat.le_trans hP.size m6.size)
    have hfin:=h7.putOrd hm8 hlo7 hown8
    have hblk8:w8.heap[A.a]? = (w6.alloc (.cells #[strOf name] 9)).heap[A.a]? := by
     have e1:A.a < (w6.alloc (.cells #[strOf name] 9)).heap.size:=h7.lt (b:=A.a) ⟨.a,congrArg some ea⟩
     refine hm8.block _ e1 fun e=>?_
     have:=h7.inj .o .a A.a e (congrArg some ea)
     cases this
    have d8:(w8.cell? ⟨A.a,2,none⟩)=some A'.ov:=by
     rw [World.cell?_of_block hblk8,← ea]
     exact h7.cells.2.2.1
    have f8:w8.frozen? ⟨A.a,2,none⟩=false:=by
     rw [World.frozen?_of_block hblk8,← ea]
     exact h7.cells.2.2.2 2
    clear hI hown8 hblk8
    go_wp2
    go_ret
    rw [← ea]
    refine ⟨rfl,_,?_,hfin.1,?_⟩
    ·rfl
    ·have hx:Mv wr w6 (fun b=>st'.Own A' b∨EO X kv av b) ((st'.putN name ks ia (s.length:Int)).Own { A' with kv:=upd A'.kv st'.N.length kv,av:=upd A'.av st'.N.length av }):=(Mv.of (O:=fun b=>st'.Own A' b∨EO X kv av b) (Below.refl wr.heap.size wr).drew).trans m6
     have hy:=hx.trans (Mv.of ((Below.refl w6.heap.size _).alloc (Nat.le_refl _) (.cells #[strOf name] 9)))
     have hz:=((hm3.out.trans hP.mv).trans hy).trans hfin.2
     exact hz
end Go.Vm.ArzG
