/-
  R.Object's walk by hand: given (function 23),the dictionary's case.
-/
import Derived.Test.YtldmbabgcdmjcaaGreatDoorObjRe
namespace Go.Vm.ObjR
open Go.Proofs
open Go.RowKit
/-- Where a key goes. -/
def kP:List (List UInt8)→List UInt8→Nat
 | [],_=>0
 | x :: r,key=>bif Op.bytesLess x key then kP r key+1 else 0
/-- The heap is as it was. -/
structure Same (w w':World):Prop where
 heap:w'.heap=w.heap
 os:w'.os=w.os
 tape:w'.tape=w.tape
 output:w'.output=w.output
theorem Same.refl (w:World):Same w w:=⟨rfl,rfl,rfl,rfl⟩
theorem Same.drew {w w':World} (h:Same w w'):Same w w'.drew:=⟨h.heap,h.os,h.tape,h.output⟩
theorem Same.cell {w w':World} (h:Same w w') (a:Addr):w'.cell? a=w.cell? a:=by unfold World.cell?; rw [h.heap]
theorem Same.frozen {w w':World} (h:Same w w') (a:Addr):w'.frozen? a=w.frozen? a:=by unfold World.frozen?; rw [h.heap]
theorem cR9 {P:Program} {c:Code} {id:Nat} {K R:Act→World→Prop} {Q:Exit→Act→World→Prop} {a:Act} {w:World} (h1:∀ A:Act→World→Prop,(∀ a w,R a w→A a w)→c.wp P (Exit.inBlock id (Exit.then A (fun _ _ _=>False))) a w) (h2:∀ a w,R a w→K a w):c.wp P (Exit.inBlock id (Exit.then K Q)) a w:=by
 refine wp_mono (h1 R (fun _ _ h=>h)) fun e a w h=>?_
 cases e with
 | normal=>exact h2 a w h
 | exit i =>
  simp only [Exit.inBlock,Exit.then] at h ⊢
  split at h
  ·rename_i hi
   rw [if_pos hi]
   exact h2 a w h
  ·exact h.elim
 | _=>exact (h:False).elim
theorem wp_cut {P:Program} {c:Code} {K R:Act→World→Prop} {Q:Exit→Act→World→Prop} {a:Act} {w:World} (h1:∀ A:Act→World→Prop,(∀ a w,R a w→A a w)→c.wp P (Exit.then A (fun _ _ _=>False)) a w) (h2:∀ a w,R a w→K a w):c.wp P (Exit.then K Q) a w:=by
 refine wp_mono (h1 R (fun _ _ h=>h)) fun e a w h=>?_
 cases e with
 | normal=>exact h2 a w h
 | _=>exact (h:False).elim
theorem cH8 (t:Array Value) (h:t.size=146):∃ J:Nat→Value,t=#[J 0,J 1,J 2,J 3,J 4,J 5,J 6,J 7,J 8,J 9,J 10,J 11,J 12,J 13,J 14,J 15,J 16,J 17,J 18,J 19,J 20,J 21,J 22,J 23,J 24,J 25,J 26,J 27,J 28,J 29,J 30,J 31,J 32,J 33,J 34,J 35,J 36,J 37,J 38,J 39,J 40,J 41,J 42,J 43,J 44,J 45,J 46,J 47,J 48,J 49,J 50,J 51,J 52,J 53,J 54,J 55,J 56,J 57,J 58,J 59,J 60,J 61,J 62,J 63,J 64,J 65,J 66,J 67,J 68,J 69,J 70,J 71,J 72,J 73,J 74,J 75,J 76,J 77,J 78,J 79,J 80,J 81,J 82,J 83,J 84,J 85,J 86,J 87,J 88,J 89,J 90,J 91,J 92,J 93,J 94,J 95,J 96,J 97,J 98,J 99,J 100,J 101,J 102,J 103,J 104,J 105,J 106,J 107,J 108,J 109,J 110,J 111,J 112,J 113,J 114,J 115,J 116,J 117,J 118,J 119,J 120,J 121,J 122,J 123,J 124,J 125,J 126,J 127,J 128,J 129,J 130,J 131,J 132,J 133,J 134,J 135,J 136,J 137,J 138,J 139,J 140,J 141,J 142,J 143,J 144,J 145]∧∀ i v,t[i]? = some v→J i=v:=by
 have h0:t=((List.range 146).map (fun i=>t.getD i undef)).toArray:=by
  apply Array.ext'
  apply List.ext_getElem?
  intro i
  rcases Nat.lt_or_ge i 146 with hi | hi
  ·rw [List.getElem?_map,List.getElem?_range hi,Array.getElem?_toList,Array.getElem?_eq_getElem (by omega),Option.map_some,Array.getD_eq_getD_getElem?,Array.getElem?_eq_getElem (by omega)]
   rfl
  ·rw [List.getElem?_eq_none (by simpa [h] using hi),List.getElem?_eq_none (by simpa using hi)]
 exact ⟨fun i=>t.getD i undef,h0.trans rfl,fun i v hv=>by simp [Array.getD_eq_getD_getElem?,hv]⟩
theorem bP8 {keys:List (List UInt8)} {key x:List UInt8} {i p:Nat} (hx:keys[i]? = some x) (h:i+kP (keys.drop i) key=p) (hL:Op.bytesLess x key=true):i+1+kP (keys.drop (i+1)) key=p:=by
 have hi:=(List.getElem?_eq_some_iff.1 hx).1
 rw [List.drop_eq_getElem_cons hi,show keys[i]=x from (List.getElem?_eq_some_iff.1 hx).2,kP,hL,cond_true] at h
 omega
theorem bQ9 {keys:List (List UInt8)} {key x:List UInt8} {i p:Nat} (hx:keys[i]? = some x) (h:i+kP (keys.drop i) key=p) (hL:Op.bytesLess x key=false):i=p:=by
 have hi:=(List.getElem?_eq_some_iff.1 hx).1
 rw [List.drop_eq_getElem_cons hi,show keys[i]=x from (List.getElem?_eq_some_iff.1 hx).2,kP,hL,cond_false] at h
 omega
theorem bZ8 {keys:List (List UInt8)} {key:List UInt8} {i p:Nat} (hx:keys.length≤i) (h:i+kP (keys.drop i) key=p):i=p:=by
 rw [List.drop_eq_nil_of_le hx,kP] at h
 omega
theorem aR0 (key:List UInt8):∀ keys:List (List UInt8),kP keys key≤keys.length
 | []=>Nat.le_refl _
 | x :: r=>by
  unfold kP
  have:=aR0 key r
  cases Op.bytesLess x key
  ·exact Nat.zero_le _
  ·exact Nat.succ_le_succ this
theorem cJ1 {i n:Nat} (h:i≤n) (hn:n≤4294967299):wrap64 ((i:Int)+1)=((i+1:Nat):Int):=by unfold wrap64; omega
theorem dA8:(Tryz.prog.info? 9).map (fun i=>(i.zero,i.size,i.bytes))=some (some (.string ⟨#[]⟩),1,16):=by kernel_rfl
theorem cZ6:∃ i,Tryz.prog.info? 9=some i∧i.zero=some (.string ⟨#[]⟩)∧i.size=1∧i.bytes=16:=by
 have h:=dA8
 cases hi:Tryz.prog.info? 9 with
 | none=>rw [hi] at h; cases h
 | some i =>
  rw [hi] at h
  simp only [Option.map_some,Option.some.injEq,Prod.mk.injEq] at h
  exact ⟨i,rfl,h.1,h.2.1,h.2.2⟩
theorem dB7:Tryz.prog.underlying 23=some (.slice 9):=by kernel_rfl
section
variable {W WA wx w1:World} {o:OV} {base g0 m k:Nat} {kv dv:Value} {cur:Array Value} {kb kc:Nat} {K:List (List UInt8)} {D:List OV}
theorem KSt.pre (hrow:W.heap[g0]? = some (.cells cur 57 (0,0))) (hsA:WA.heap.size=W.heap.size+1) (hbA:∀ b,b < W.heap.size→WA.heap[b]? = W.heap[b]?) (hS:Same WA wx) {ob:Obj} (hgrow:(wx.alloc ob).grownBy w1 kv.ownBlock)
  {b:Nat} (hb:b < W.heap.size) (hn:kv.ownBlock≠some b):w1.heap[b]? = W.heap[b]? := by
 have hx:wx.heap.size=W.heap.size+1:=by rw [hS.heap,hsA]
 refine (hgrow.block b (by rw [World.size_alloc]; omega) (Ne.symm hn)).trans ((Below.heap_alloc _ _ _ (by omega)).trans ?_)
 rw [hS.heap]
 exact hbA b hb
theorem KSt.make (hkg:kv.ownBlock≠some g0) (hdg:dv.ownBlock≠some g0) (hkd:∀ b,kv.ownBlock=some b→dv.ownBlock≠some b) (hok:W.ownsRow base 9 1 kv k (K.map strOf)) (hod:W.ownsRow base 26 5 dv k (D.flatMap OV.cells)) (hrow:W.heap[g0]? = some (.cells cur 57 (0,0))) (hsz:m+7≤cur.size)
  (hbase:base≤W.heap.size) (hb0:base≤g0) (hBA:Below base W WA) (hnA:WA.heap[W.heap.size]? = some (.cells #[.int .i64 o.z0,.int .i64 o.z1,.string o.s2,.slice o.q3 o.l3 o.p3,.slice o.q4 o.l4 o.p4] 26 (0,0)))
  (hbA:∀ b,b < W.heap.size→WA.heap[b]? = W.heap[b]?) (hsA:WA.heap.size=W.heap.size+1) (hS:Same WA wx) {ob:Obj} (hown1:w1.ownsRow base 9 1 (.slice (some ⟨kb,0,none⟩) (k+1) kc) (k+1) (K.map strOf++[.string ⟨#[]⟩])) (hgrow:(wx.alloc ob).grownBy w1 kv.ownBlock)
  (hat:kv.ownBlock=some kb∨kb=W.heap.size+2):KSt W o base g0 m k kv dv cur (w1.setCell ⟨g0,m+3,none⟩ (.slice (some ⟨kb,0,none⟩) (k+1) kc)) kb kc (K++[[]]) D:=by
 have hx:wx.heap.size=W.heap.size+1:=by rw [hS.heap,hsA]
 have hlt:=cZ hrow
 have pre:∀ b,b < W.heap.size→kv.ownBlock≠some b→w1.heap[b]? = W.heap[b]? := fun b hb hn=>KSt.pre hrow hsA hbA hS hgrow hb hn
 have hkl:∀ b,kv.ownBlock=some b→b < W.heap.size:=fun b hb=>(hok.lt b hb).2
 have hdl:∀ b,dv.ownBlock=some b→b < W.heap.size:=fun b hb=>(hod.lt b hb).2
 have hkb:kb≠g0:=by
  rintro rfl
  rcases hat with e | e
  ·exact hkg e
  ·omega
 have hbx:Below base W (wx.alloc ob):=(⟨hS.os.trans hBA.os,hS.tape.trans hBA.tape,hS.output.trans hBA.output,by rw [hS.heap]; exact hBA.size,fun b hb=>by rw [hS.heap]; exact hBA.block b hb⟩:Below base W wx).alloc (by omega) _
 refine ⟨fK ((pre g0 hlt hkg).trans hrow),?_,jD hod fun b hb=>(Below.heap_setCell _ _ _ _ (fun e=>by subst e; exact hdg hb)).trans (pre b (hdl b hb) fun e=>hkd b e hb),hkb,hdg,?_,hat.imp id (fun e=>by omega),hdl,fun b hb hg hk=>(Below.heap_setCell _ _ _ _ hg).trans (pre b hb (Ne.symm hk)),?_,hsz,?_,?_⟩
 ·rw [List.map_append,List.map_singleton]
  exact jD hown1 fun b hb=>Below.heap_setCell _ _ _ _ (by cases hb; exact hkb)
 ·intro e
  rcases hat with q | q
  ·exact hkd kb q e
  ·have:=hdl kb e
   omega
 ·exact (hbx.grown hgrow (Nat.le_trans hbase hbx.size) fun j hj=>(hok.lt j hj).1).setCell hb0 _
 ·refine (Below.heap_setCell _ _ _ _ (Nat.ne_of_gt hlt)).trans ((hgrow.block _ (by rw [World.size_alloc]; omega) fun e=>?_).trans ((Below.heap_alloc _ _ _ (by omega)).trans ?_))
  ·have:=hkl _ e.symm
   omega
  ·rw [hS.heap]
   exact hnA
 ·rcases hat with q | q
  ·have:=hkl _ q
   omega
  ·omega
end
section
variable {W w w1:World} {o:OV} {base g0 m k:Nat} {kv dv:Value} {cur:Array Value} {kb kc db dc:Nat} {K:List (List UInt8)} {D:List OV} {ob:Obj}
theorem KSt.bW8 (h:KSt W o base g0 m k kv dv cur w kb kc K D) (hown1:w1.ownsRow base 26 5 (.slice (some ⟨db,0,none⟩) (k+1) dc) (k+1) (D.flatMap OV.cells++[.int .i64 0,.int .i64 0,.string ⟨#[]⟩,.slice none 0 0,.slice none 0 0])) (hgrow:((w.alloc ob).drew).grownBy w1 dv.ownBlock) (hat:dv.ownBlock=some db∨db=w.heap.size+1) {b:Nat} (hb:b < w.heap.size) (hd:dv.ownBlock≠some b):db≠b:=by
 rintro rfl
 rcases hat with e | e
 ·exact hd e
 ·omega
theorem KSt.old (h:KSt W o base g0 m k kv dv cur w kb kc K D) (hown1:w1.ownsRow base 26 5 (.slice (some ⟨db,0,none⟩) (k+1) dc) (k+1) (D.flatMap OV.cells++[.int .i64 0,.int .i64 0,.string ⟨#[]⟩,.slice none 0 0,.slice none 0 0])) (hgrow:((w.alloc ob).drew).grownBy w1 dv.ownBlock) (hat:dv.ownBlock=some db∨db=w.heap.size+1) {b:Nat} (hb:b < w.heap.size) (hd:dv.ownBlock≠some b):w1.heap[b]? = w.heap[b]? :=
 (hgrow.block b (by show b < (w.alloc ob).heap.size; rw [World.size_alloc]; omega) (Ne.symm hd)).trans (Below.heap_alloc _ _ _ hb)
theorem KSt.after (h:KSt W o base g0 m k kv dv cur w kb kc K D) (hown1:w1.ownsRow base 26 5 (.slice (some ⟨db,0,none⟩) (k+1) dc) (k+1) (D.flatMap OV.cells++[.int .i64 0,.int .i64 0,.string ⟨#[]⟩,.slice none 0 0,.slice none 0 0])) (hgrow:((w.alloc ob).drew).grownBy w1 dv.ownBlock) (hat:dv.ownBlock=some db∨db=w.heap.size+1) (hdv:cur[m+4]? = some dv) :
  (w1.cell? ⟨db,k * 5,none⟩=some (.int .i64 0)∧w1.cell? ⟨db,k * 5+1,none⟩=some (.int .i64 0)∧w1.cell? ⟨db,k * 5+2,none⟩=some (.string ⟨#[]⟩)∧w1.cell? ⟨db,k * 5+3,none⟩=some (.slice none 0 0)∧w1.cell? ⟨db,k * 5+4,none⟩=some (.slice none 0 0)) ∧
  (w1.frozen? ⟨db,k * 5,none⟩=false∧w1.frozen? ⟨db,k * 5+1,none⟩=false∧w1.frozen? ⟨db,k * 5+2,none⟩=false∧w1.frozen? ⟨db,k * 5+3,none⟩=false∧w1.frozen? ⟨db,k * 5+4,none⟩=false) ∧
  w1.cell? ⟨g0,m+4,none⟩=some dv∧w1.frozen? ⟨g0,m+4,none⟩=false∧db≠g0:=by
 obtain ⟨a,b⟩:=bY6 hown1
 have hg:=(h.old hown1 hgrow hat (cZ h.row) h.dg).trans h.row
 refine ⟨a,b,?_,by simp [World.frozen?,hg],h.bW8 hown1 hgrow hat (cZ h.row) h.dg⟩
 simp only [World.cell?,hg,Option.isSome_none,Bool.false_eq_true,if_false]
 rw [Array.getElem?_setIfInBounds_ne (by omega),hdv]
theorem KSt.fin (h:KSt W o base g0 m k kv dv cur w kb kc K D) (hown1:w1.ownsRow base 26 5 (.slice (some ⟨db,0,none⟩) (k+1) dc) (k+1) (D.flatMap OV.cells++[.int .i64 0,.int .i64 0,.string ⟨#[]⟩,.slice none 0 0,.slice none 0 0])) (hgrow:((w.alloc ob).drew).grownBy w1 dv.ownBlock) (hat:dv.ownBlock=some db∨db=w.heap.size+1) (hbase:base≤w.heap.size) (hb0:base≤g0):DSt W o base g0 m k kv dv cur ((((((w1.setCell ⟨db,k * 5,none⟩ (.int .i64 0)).setCell ⟨db,k * 5+1,none⟩ (.int .i64 0)).setCell ⟨db,k * 5+2,none⟩ (.string ⟨#[]⟩)).setCell ⟨db,k * 5+3,none⟩ (.slice none 0 0)).setCell ⟨db,k * 5+4,none⟩ (.slice none 0 0)).setCell ⟨g0,m+4,none⟩ (.slice (some ⟨db,0,none⟩) (k+1) dc)) kb kc db dc K (D++[OV.zero]):=by
 have hgg:=h.bW8 hown1 hgrow hat (cZ h.row) h.dg
 have hdb:=bS2 hown1
 have five:∀ b,b≠db→(((((w1.setCell ⟨db,k * 5,none⟩ (.int .i64 0)).setCell ⟨db,k * 5+1,none⟩ (.int .i64 0)).setCell ⟨db,k * 5+2,none⟩ (.string ⟨#[]⟩)).setCell ⟨db,k * 5+3,none⟩ (.slice none 0 0)).setCell ⟨db,k * 5+4,none⟩ (.slice none 0 0)).heap[b]? = w1.heap[b]? := fun b hb=>by
  rw [Below.heap_setCell _ _ _ _ hb,Below.heap_setCell _ _ _ _ hb,Below.heap_setCell _ _ _ _ hb,Below.heap_setCell _ _ _ _ hb,Below.heap_setCell _ _ _ _ hb]
 have hx:(D.flatMap OV.cells).length=k * 5:=h.od.1
 refine h.toD ?_ (hat.imp id fun e=>by omega) (fK ((five g0 (Ne.symm hgg)).trans ((h.old hown1 hgrow hat (cZ h.row) h.dg).trans h.row))) (fun b hb hg hd=>?_) ?_
 ·have o5:=iL (u:=.slice none 0 0) (j:=k * 5+4) (iL (u:=.slice none 0 0) (j:=k * 5+3) (iL (u:=.string ⟨#[]⟩) (j:=k * 5+2) (iL (u:=.int .i64 0) (j:=k * 5+1) (iL (u:=.int .i64 0) (j:=k * 5) hown1 (by omega)) (by omega)) (by omega)) (by omega)) (by omega)
  have e:(((((D.flatMap OV.cells++[Value.int .i64 0,Value.int .i64 0,Value.string ⟨#[]⟩,Value.slice none 0 0,Value.slice none 0 0]).set (k * 5) (.int .i64 0)).set (k * 5+1) (.int .i64 0)).set (k * 5+2) (.string ⟨#[]⟩)).set (k * 5+3) (.slice none 0 0)).set (k * 5+4) (.slice none 0 0)=(D++[OV.zero]).flatMap OV.cells:=by
   rw [← hx]
   simp [List.set_append,OV.cells,OV.zero]
  rw [e] at o5
  exact jD o5 fun b hb=>Below.heap_setCell _ _ _ _ (by cases hb; exact hgg)
 ·rw [Below.heap_setCell _ _ _ _ hg,five b (Ne.symm (h.bW8 hown1 hgrow hat hb (Ne.symm hd)))]
  exact h.old hown1 hgrow hat hb (Ne.symm hd)
 ·refine ((((((Below.grown ((Below.refl base w).alloc hbase ob).drew hgrow (by show base≤(w.alloc ob).heap.size; rw [World.size_alloc]; omega) fun j hj=>(h.od.lt j hj).1).setCell hdb _).setCell hdb _).setCell hdb _).setCell hdb _).setCell hdb _).setCell hb0 _
theorem KSt.fin' (h:KSt W o base g0 m k kv dv cur w kb kc K D) (hown1:w1.ownsRow base 26 5 (.slice (some ⟨db,0,none⟩) (k+1) dc) (k+1) (D.flatMap OV.cells++[.int .i64 0,.int .i64 0,.string ⟨#[]⟩,.slice none 0 0,.slice none 0 0])) (hgrow:((w.alloc ob).drew).grownBy w1 dv.ownBlock) (hat:dv.ownBlock=some db∨db=w.heap.size+1) (hbase:base≤w.heap.size) (hb0:base≤g0):DSt W o base g0 m k kv dv cur ((((((w1.setCell ⟨g0,m+4,none⟩ (.slice (some ⟨db,0,none⟩) (k+1) dc)).setCell ⟨db,k * 5,none⟩ (.int .i64 0)).setCell ⟨db,k * 5+1,none⟩ (.int .i64 0)).setCell ⟨db,k * 5+2,none⟩ (.string ⟨#[]⟩)).setCell ⟨db,k * 5+3,none⟩ (.slice none 0 0)).setCell ⟨db,k * 5+4,none⟩ (.slice none 0 0)) kb kc db dc K (D++[OV.zero]):=by
 have hgg:=h.bW8 hown1 hgrow hat (cZ h.row) h.dg
 rw [iV _ (Ne.symm hgg),iV _ (Ne.symm hgg),iV _ (Ne.symm hgg),iV _ (Ne.symm hgg),iV _ (Ne.symm hgg)]
 exact h.fin hown1 hgrow hat hbase hb0
end
theorem DSt.dC7 {W w:World} {o:OV} {base g0 m k:Nat} {kv dv:Value} {cur:Array Value} {kb kc db dc:Nat} {K:List (List UInt8)} {D:List OV} (h:DSt W o base g0 m k kv dv cur w kb kc db dc K D):∃ u,w.cell? ⟨g0,m+6,none⟩=some u:=by
 have hs:=h.size
 refine Option.isSome_iff_exists.1 ?_
 simp only [World.cell?,h.row,Option.isSome_none,Bool.false_eq_true,if_false]
 rw [Array.getElem?_eq_getElem (by simp only [Array.size_setIfInBounds]; omega)]
 rfl
theorem cV2 {g p i k:Nat} (h:g+p=i+1) (hp:p < i+1) (hk:i+1≤k):∃ g',g=g'+1∧g'+p=i∧i≤k:=⟨g - 1,by omega,by omega,by omega⟩
theorem cN0 {i k n:Nat} (h:n=k+1) (hi:i≤k):i < n:=by omega
set_option maxRecDepth 100000 in
set_option maxHeartbeats 4000000 in
theorem bP0 {W:World} {base g0 n m cap k:Nat} {kv dv:Value} {keys:List (List UInt8)} {kids:List OV} {cur:Array Value} {key:List UInt8} {z0 z1:Int} {s2:ByteArray} {q3 q4:Option Addr} {l3 p3 l4 p4:Nat}
    (hrow:W.heap[g0]? = some (.cells cur 57 (0,0))) (hm:m=n * 7) (hsz:m+7≤cur.size) (hk:cur[m]? = some (.int .i64 7)) (hkv:cur[m+3]? = some kv) (hdv:cur[m+4]? = some dv) (hkey:cur[m+5]? = some (strOf key))
    (hok:W.ownsRow base 9 1 kv k (keys.map strOf)) (hod:W.ownsRow base 26 5 dv k (kids.flatMap OV.cells)) (hkg:kv.ownBlock≠some g0) (hdg:dv.ownBlock≠some g0) (hkd:∀ b,kv.ownBlock=some b→dv.ownBlock≠some b)
    (hkb:k+1≤1000000) (hnb:n≤1000000) (hbase:base≤W.heap.size) (hb0:base≤g0) :
    Calls Tryz.prog 23 #[.slice (some ⟨g0,0,none⟩) (n+1) cap,.agg #[.int .i64 z0,.int .i64 z1,.string s2,.slice q3 l3 p3,.slice q4 l4 p4]] W fun e W'=>e=.returned (.tuple #[]) ∧
      ∃ kb kc db dc w,DSt W ⟨z0,z1,s2,q3,l3,p3,q4,l4,p4⟩ base g0 m k kv dv cur w kb kc db dc (keys.take (kP keys key)++key :: keys.drop (kP keys key)) (kids.take (kP keys key)++⟨z0,z1,s2,q3,l3,p3,q4,l4,p4⟩ :: kids.drop (kP keys key))∧W'=w.setCell ⟨g0,m+6,none⟩ (.bool false):=by
  obtain ⟨i0,hi0,hz0,hz1,hz2⟩:=info_parts cL9
  have hwn:wrap64 (n:Int)=n:=by unfold wrap64; omega
  have hn0:(0:Int)≤(n:Int):=Int.natCast_nonneg _
  have hn1:(n:Int) < (n:Int)+1:=by omega
  subst hm
  obtain ⟨qk,ck,rfl⟩:∃ q cd,kv=.slice q k cd:=by
    rcases hok.2 with ⟨h,h'⟩ | ⟨g,cp,cu,h,_⟩
    · exact ⟨none,0,by rw [h,h']⟩
    · exact ⟨_,cp,h⟩
  obtain ⟨qd,cd,rfl⟩:∃ q cd,dv=.slice q k cd:=by
    rcases hod.2 with ⟨h,h'⟩ | ⟨g,cp,cu,h,_⟩
    · exact ⟨none,0,by rw [h,h']⟩
    · exact ⟨_,cp,h⟩
  have hlt:=cZ hrow
  have hkeyc:∀ (i:Nat) (x:List UInt8),keys[i]? = some x→∃ b,qk=some ⟨b,0,none⟩∧b < W.heap.size∧W.cell? ⟨b,i,none⟩=some (strOf x):=fun i x hx=>by
    have hl:=hok.1
    rw [List.length_map] at hl
    have hi:=(List.getElem?_eq_some_iff.1 hx).1
    rcases hok.2 with ⟨h,h'⟩ | ⟨g,cp,cu,h,_,h4,_⟩
    · cases h; omega
    · cases h
      refine ⟨g,rfl,cZ h4,?_⟩
      have:=hok.cells (g:=g) rfl i (strOf x) (by rw [List.getElem?_map,hx]; rfl)
      rw [aZ0] at this
      exact this
  have hkl:keys.length=k:=by simpa using hok.1
  have HKC:Aside _:=hkeyc
  have hrowA:(W.alloc (.cells #[.int .i64 z0,.int .i64 z1,.string s2,.slice q3 l3 p3,.slice q4 l4 p4] 26)).heap[g0]? = some (.cells cur 57 (0,0)):=(Below.heap_alloc _ _ _ hlt).trans hrow
  have hc0:(W.alloc (.cells #[.int .i64 z0,.int .i64 z1,.string s2,.slice q3 l3 p3,.slice q4 l4 p4] 26)).cell? ⟨g0,n * 7,none⟩=some (.int .i64 7):=by simp [World.cell?,hrowA,hk]
  have HA:Aside ((Value.slice qk k ck).ownBlock≠some g0∧(Value.slice qd k cd).ownBlock≠some g0∧(∀ b,(Value.slice qk k ck).ownBlock=some b→(Value.slice qd k cd).ownBlock≠some b)∧W.ownsRow base 9 1 (.slice qk k ck) k (keys.map strOf)∧W.ownsRow base 26 5 (.slice qd k cd) k (kids.flatMap OV.cells)∧W.heap[g0]? = some (.cells cur 57 (0,0))∧n * 7+7≤cur.size∧cur[n * 7+3]? = some (.slice qk k ck)∧cur[n * 7+4]? = some (.slice qd k cd)∧cur[n * 7+5]? = some (strOf key)):=⟨hkg,hdg,hkd,hok,hod,hrow,hsz,hkv,hdv,hkey⟩
  have hk0:(0:Int)≤(k:Int):=Int.natCast_nonneg _
  have HB:Aside (k+1≤1000000):=hkb
  have hk1:(k:Int) < (k:Int)+1:=by omega
  clear hkg hdg hkd hok hod hkeyc hrow hsz hkv hdv hkey hk hkb
  go_enter Tryz.func23,Tryz.ntmps23
  go_wp2
  have hsA:(W.alloc (.cells #[.int .i64 z0,.int .i64 z1,.string s2,.slice q3 l3 p3,.slice q4 l4 p4] 26)).heap.size=W.heap.size+1:=World.size_alloc _ _
  have hcA:∀ b j,b < W.heap.size→(W.alloc (.cells #[.int .i64 z0,.int .i64 z1,.string s2,.slice q3 l3 p3,.slice q4 l4 p4] 26)).cell? ⟨b,j,none⟩=W.cell? ⟨b,j,none⟩:=fun b j hb=>World.cell?_of_block (Below.heap_alloc _ _ _ hb)
  have hbA:∀ b,b < W.heap.size→(W.alloc (.cells #[.int .i64 z0,.int .i64 z1,.string s2,.slice q3 l3 p3,.slice q4 l4 p4] 26)).heap[b]? = W.heap[b]? := fun b hb=>Below.heap_alloc _ _ _ hb
  have hnA:(W.alloc (.cells #[.int .i64 z0,.int .i64 z1,.string s2,.slice q3 l3 p3,.slice q4 l4 p4] 26)).heap[W.heap.size]? = some (.cells #[.int .i64 z0,.int .i64 z1,.string s2,.slice q3 l3 p3,.slice q4 l4 p4] 26 (0,0)):=heap_alloc_new _ _
  have hBA:Below base W (W.alloc (.cells #[.int .i64 z0,.int .i64 z1,.string s2,.slice q3 l3 p3,.slice q4 l4 p4] 26)):=(Below.refl _ _).alloc hbase _
  revert hsA hcA hbA hnA hBA hrowA hc0
  generalize W.alloc _=WA
  intro hrowA hc0 hsA hcA hbA hnA hBA
  have hc3:WA.cell? ⟨g0,n * 7+3,none⟩=some (.slice qk k ck):=by simp [World.cell?,hrowA,HA.out.2.2.2.2.2.2.2.1]
  have hc5:WA.cell? ⟨g0,n * 7+5,none⟩=some (strOf key):=by simp [World.cell?,hrowA,HA.out.2.2.2.2.2.2.2.2.2]
  unfold strOf at hc5
  have HX:Aside _:=And.intro hBA (And.intro hnA (And.intro hbA (And.intro hcA (And.intro hsA hrowA))))
  clear hBA hnA hbA hcA hsA hrowA hc0
  refine cR9 (R:=fun a w=>a.tmps.size=146∧a.defers=[]∧a.tmps[3]? = some (.pointer (some ⟨W.heap.size,0,none⟩))∧a.tmps[4]? = some (.pointer (some ⟨g0,n * 7,none⟩))∧a.tmps[5]? = some (.int .i64 (kP keys key:Nat))∧Same WA w) ?_ ?_
  case refine_1 =>
    intro A hA
    go_loopg [5] k (fun g v5 wx=>∃ i:Nat,g+i=k∧v5=.int .i64 (i:Int)∧Same WA wx∧i+kP (keys.drop i) key=kP keys key)
    case atStart=>exact ⟨0,by omega,rfl,Same.refl _,by simp⟩
    case round =>
      obtain ⟨i,hg,rfl,hS,hI⟩:=hrel
      have r3:=(hS.cell ⟨g0,n * 7+3,none⟩).trans hc3
      have r5:=(hS.cell ⟨g0,n * 7+5,none⟩).trans hc5
      by_cases hik:i < k
      · obtain ⟨x,hx⟩:∃ x,keys[i]? = some x:=⟨_,List.getElem?_eq_getElem (by omega)⟩
        obtain ⟨b,rfl,hb,hc⟩:=HKC.out i x hx
        have rk:=(hS.cell ⟨b,i,none⟩).trans ((HX.out.2.2.2.1 b i hb).trans hc)
        unfold strOf at rk
        have hiz:(i:Int) < (k:Int):=by omega
        have hi0':(0:Int)≤(i:Int):=Int.natCast_nonneg _
        cases hL:Op.bytesLess x key with
        | true =>
          go_wp2
          go_region
          go_wp2
          obtain ⟨g',rfl⟩:∃ g',gk=g'+1:=⟨gk - 1,by omega⟩
          go_roundg g'
          case measure=>omega
          case rel=>exact ⟨i+1,by omega,congrArg (Value.int .i64) (cJ1 (Nat.le_of_lt hik) (by have:=HB.out; omega)),hS.drew,bP8 hx hI hL⟩
        | false =>
          go_wp2
          go_region
          go_wp2
          have hip:=bQ9 hx hI hL
          exact ⟨by rw [hip],hS.drew⟩
      · have hie:i=k:=by omega
        subst hie
        go_wp2
        go_region
        go_wp2
        have hip:=bZ8 (by omega) hI
        exact ⟨by rw [hip],hS.drew⟩
  case refine_2 =>
    rintro ⟨tm,df⟩ wx ⟨hz,hdf,h3,h4,h5,hS⟩
    dsimp only at hz hdf h3 h4 h5
    subst hdf
    obtain ⟨J,rfl,hJ⟩:=cH8 tm hz
    rw [hJ 3 _ h3,hJ 4 _ h4,hJ 5 _ h5]
    clear hJ hz h3 h4 h5
    have r3:=(hS.cell ⟨g0,n * 7+3,none⟩).trans hc3
    have hxs:wx.heap.size=W.heap.size+1:=by rw [hS.heap]; exact HX.out.2.2.2.2.1
    have h1:W.heap.size+1≤wx.heap.size:=by omega
    have hownx:wx.ownsRow base 9 1 (.slice qk k ck) k (keys.map strOf):=jD HA.out.2.2.2.1 fun b hb=>by rw [hS.heap]; exact HX.out.2.2.1 b (HA.out.2.2.2.1.lt b hb).2
    have HO:Aside (wx.ownsRow base 9 1 (.slice qk k ck) k (keys.map strOf)):=hownx
    clear hownx
    obtain ⟨i9,j1,j2,j3,j4⟩:=cZ6
    go_wp2_with (first | (at_builtin; go_loud (refine wpList_append_lies _ rfl _ _ 23 rfl base 9 i9 _ 1 16 dB7 j1 j2 j3 j4 rfl (by omega) (.slice qk k ck) k (keys.map strOf) (by rfl) (HO.out.alloc _) ⟨W.heap.size+1,0,none⟩ 1 1 [.string ⟨#[]⟩] (by rfl) (by rfl) (World.news_of_block (cs:=#[.string ⟨#[]⟩]) (t:=9) (fr:=(0,0)) (by rw [← hxs]; exact heap_alloc_new _ _)) (by simp [Value.oneCell']) (by omega) (by have:=HB.out; simp [maxLen]; omega) (by have:=HB.out; omega) (by rw [World.size_alloc]; omega) (W.heap.size+2) (by rw [World.size_alloc]; omega) ?_)) | fail)
    intro kb kc w1 hown1 hgrow hat hlt1
    have hg1:=(KSt.pre HA.out.2.2.2.2.2.1 HX.out.2.2.2.2.1 HX.out.2.2.1 hS hgrow hlt HA.out.1).trans HA.out.2.2.2.2.2.1
    have fg:w1.frozen? ⟨g0,n * 7+3,none⟩=false:=by simp [World.frozen?,hg1]
    have cg:w1.cell? ⟨g0,n * 7+3,none⟩=some (.slice qk k ck):=by simp [World.cell?,hg1,HA.out.2.2.2.2.2.2.2.1]
    have KS:=KSt.make (o:=⟨z0,z1,s2,q3,l3,p3,q4,l4,p4⟩) HA.out.1 HA.out.2.1 HA.out.2.2.1 HA.out.2.2.2.1 HA.out.2.2.2.2.1 HA.out.2.2.2.2.2.1 HA.out.2.2.2.2.2.2.1 hbase hb0 HX.out.1 HX.out.2.1 HX.out.2.2.1 HX.out.2.2.2.2.1 hS hown1 hgrow hat
    clear hown1 hgrow hat hlt1 HO hg1 j1 j2 j3 j4 HX hc3 hc5 r3 hS hxs h1 HKC
    go_wp2
    revert KS
    generalize World.setCell _ _ _=w2
    intro KS
    obtain ⟨c4,f4⟩:=KS.cS3 HA.out.2.2.2.2.2.2.2.2.1
    have HK:Aside (KSt W ⟨z0,z1,s2,q3,l3,p3,q4,l4,p4⟩ base g0 (n * 7) k (.slice qk k ck) (.slice qd k cd) cur w2 kb kc (keys++[[]]) kids):=KS
    clear KS
    have d4:∀ ob,(w2.alloc ob).drew.cell? ⟨g0,n * 7+4,none⟩=some (.slice qd k cd):=fun ob=>(World.cell?_of_block (show (w2.alloc ob).drew.heap[g0]? = w2.heap[g0]? from Below.heap_alloc _ _ _ (cZ HK.out.row))).trans c4
    clear fg cg
    refine wp_cut (R:=fun a w=>∃ db dc,a.tmps.size=146∧a.defers=[]∧a.tmps[3]? = some (.pointer (some ⟨W.heap.size,0,none⟩))∧a.tmps[4]? = some (.pointer (some ⟨g0,n * 7,none⟩))∧a.tmps[5]? = some (.int .i64 (kP keys key:Nat))∧DSt W ⟨z0,z1,s2,q3,l3,p3,q4,l4,p4⟩ base g0 (n * 7) k (.slice qk k ck) (.slice qd k cd) cur w kb kc db dc (keys++[[]]) (kids++[OV.zero])) ?_ ?_
    case refine_1 =>
      intro A hA
      go_region_law
        ((refine step_append_lies _ (by rfl) _ _ _ (by rfl) base 26 i0 _ 5 80 Tryz.underlying24 hi0 hz0 hz1 hz2 rfl (by omega) (.slice qd k cd) k (kids.flatMap OV.cells) (by rfl) ((World.ownsRow.alloc HK.out.od _).drew)
              ⟨w2.heap.size,0,none⟩ 1 1 [.int .i64 0,.int .i64 0,.string ⟨#[]⟩,.slice none 0 0,.slice none 0 0] (by rfl) (by rfl) (World.news_of_block (cs:=#[.int .i64 0,.int .i64 0,.string ⟨#[]⟩,.slice none 0 0,.slice none 0 0]) (t:=26) (fr:=(0,0)) (show ((w2.alloc (.cells #[.int .i64 0,.int .i64 0,.string ⟨#[]⟩,.slice none 0 0,.slice none 0 0] 26)).drew).heap[w2.heap.size]? = _ from heap_alloc_new _ _)) (by simp [Value.oneCell'])
              (by omega) (by have:=HB.out; simp [maxLen]; omega) (by have:=HB.out; omega) (by have:=HK.out.below.size; simp; omega) (w2.heap.size+1) (by simp) ?_; intro db dc w1 hown1 hgrow hat hlt1; obtain ⟨⟨e0,e1,e2,e3,e4⟩,⟨f0,f1,f2,f3,f4⟩,eg,fg,hgg⟩:=HK.out.after hown1 hgrow hat HA.out.2.2.2.2.2.2.2.2.1))
      all_goals
        first
        | (have hf:=HK.out.fin hown1 hgrow hat (Nat.le_trans hbase HK.out.below.size) hb0
           revert hf
           generalize World.setCell _ _ (.slice (some ⟨db,0,none⟩) (k+1) dc)=w3
           intro hf
           refine hA _ _ ⟨db,dc,rfl,rfl,rfl,rfl,rfl,?_⟩
           with_reducible exact hf)
        | (have hf:=HK.out.fin' hown1 hgrow hat (Nat.le_trans hbase HK.out.below.size) hb0
           revert hf
           generalize World.setCell _ ⟨db,k * 5+4,none⟩ (.slice none 0 0)=w3
           intro hf
           refine hA _ _ ⟨db,dc,rfl,rfl,rfl,rfl,rfl,?_⟩
           with_reducible exact hf)
    case refine_2 =>
      rintro ⟨tm,df⟩ w3 ⟨db,dc,hz,hdf,h3,h4,h5,HD⟩
      dsimp only at hz hdf h3 h4 h5
      subst hdf
      clear J
      obtain ⟨J,rfl,hJ⟩:=cH8 tm hz
      rw [hJ 3 _ h3,hJ 4 _ h4,hJ 5 _ h5]
      clear hJ hz h3 h4 h5
      clear c4 f4 d4 HK hz0 hz1 hz2 hi0
      have hwk:wrap64 (k:Int)=(k:Int):=by have:=HB.out; unfold wrap64; omega
      obtain ⟨c3,c4,c5,cf⟩:=HD.cells
      have hK0:(keys++[[]]).eraseIdx k=keys:=by rw [← hkl,List.eraseIdx_append_of_length_le (Nat.le_refl _)]; simp
      have hkd:kids.length=k:=by have:=HA.out.2.2.2.2.1.1; rw [aZ3] at this; omega
      have hD0:(kids++[OV.zero]).eraseIdx k=kids:=by rw [← hkd,List.eraseIdx_append_of_length_le (Nat.le_refl _)]; simp
      have hp:kP keys key≤k:=by rw [← hkl]; exact aR0 _ _
      have HP:Aside ((keys++[[]]).eraseIdx k=keys∧(kids++[OV.zero]).eraseIdx k=kids∧kP keys key≤k∧DSt W ⟨z0,z1,s2,q3,l3,p3,q4,l4,p4⟩ base g0 (n * 7) k (.slice qk k ck) (.slice qd k cd) cur w3 kb kc db dc (keys++[[]]) (kids++[OV.zero])):=⟨hK0,hD0,hp,HD⟩
      obtain ⟨p,hpd⟩:∃ p,p=kP keys key:=⟨_,rfl⟩
      rw [← hpd] at HP ⊢
      have HPD:Aside (p=kP keys key):=hpd
      clear hK0 hD0 hp HD hkd hpd
      go_wp2
      clear c3 c4 c5 cf
      go_loopg [6] (k - p) (fun g v6 wx=>∃ (i:Nat) (K:List (List UInt8)) (D:List OV),g+p=i∧i≤k∧v6=.int .i64 (i:Int)∧DSt W ⟨z0,z1,s2,q3,l3,p3,q4,l4,p4⟩ base g0 (n * 7) k (.slice qk k ck) (.slice qd k cd) cur wx kb kc db dc K D∧K.eraseIdx i=keys∧D.eraseIdx i=kids)
      case atStart=>exact ⟨k,_,_,by have:=HP.out.2.2.1; omega,Nat.le_refl _,congrArg (Value.int .i64) hwk,HP.out.2.2.2,HP.out.1,HP.out.2.1⟩
      case round =>
        obtain ⟨i,K,D,hg,hik,rfl,hD,hK1,hD1⟩:=hrel
        have HI:Aside (gk+p=i∧i≤k∧K.eraseIdx i=keys∧D.eraseIdx i=kids):=⟨hg,hik,hK1,hD1⟩
        by_cases hip:p < i
        · obtain ⟨i,rfl⟩:∃ j,i=j+1:=⟨i - 1,by omega⟩
          obtain ⟨x,hx⟩:∃ x,K[i]? = some x:=⟨_,List.getElem?_eq_getElem (by rw [hD.cN9]; omega)⟩
          obtain ⟨o,ho⟩:∃ x,D[i]? = some x:=⟨_,List.getElem?_eq_getElem (by rw [hD.cB7]; omega)⟩
          have hpi:(p:Int) < (i:Int)+1:=by omega
          have hE1:(K.set (i+1) x).eraseIdx i=keys:=(aV7 (by rw [hD.cN9]; omega) hx).trans hK1
          have hE2:(D.set (i+1) o).eraseIdx i=kids:=(aV7 (by rw [hD.cB7]; omega) ho).trans hD1
          have hwi:wrap64 (i:Int)=(i:Int):=by have:=HB.out; unfold wrap64; omega
          have HN:Aside (gk+p=i+1∧i+1≤k∧(K.set (i+1) x).eraseIdx i=keys∧(D.set (i+1) o).eraseIdx i=kids∧DSt W ⟨z0,z1,s2,q3,l3,p3,q4,l4,p4⟩ base g0 (n * 7) k (.slice qk k ck) (.slice qd k cd) cur wr kb kc db dc K D∧K[i]? = some x∧D[i]? = some o):=⟨hg,hik,hE1,hE2,hD,hx,ho⟩
          clear hE1 hE2 hK1 hD1 hg hik HI hD hx ho
          go_wp2
          refine wp_mono (cJ6 HN.out.2.2.2.2.1 HN.out.2.1 HN.out.2.2.2.2.2.1 HN.out.2.2.2.2.2.2 (by have:=HB.out; omega)) fun e a w' h=>?_
          cases e with
          | normal =>
            obtain ⟨hD',v92,v93,v94,v95,v96,v97,v98,v99,v100,v101,v102,v103,v104,v105,v106,v107,v108,v109,v110,v111,v112,v113,v114,v115,v116,v117,v118,v119,v120,v121,v122,v123,rfl⟩:=h
            have HD':Aside _:=hD'
            clear hD'
            go_wp2
            obtain ⟨h1,h2,h3,h4,_⟩:=HN.out
            obtain ⟨g',rfl,h5,h6⟩:=cV2 h1 hip h2
            go_roundg g'
            case measure=>exact Nat.lt_succ_self _
            case rel=>exact ⟨i,_,_,h5,h6,congrArg (Value.int .i64) hwi,HD'.out,h3,h4⟩
          | _=>exact (h:False).elim
        · have hie:i=p:=by omega
          subst hie
          have HN:Aside (i≤k∧K.eraseIdx i=keys∧D.eraseIdx i=kids∧DSt W ⟨z0,z1,s2,q3,l3,p3,q4,l4,p4⟩ base g0 (n * 7) k (.slice qk k ck) (.slice qd k cd) cur wr kb kc db dc K D):=⟨hik,hK1,hD1,hD⟩
          clear hik hK1 hD1 hD hg hip HI HP hwk
          go_wp2
          refine wp_mono (cL0 HN.out.2.2.2 HN.out.1 HA.out.2.2.2.2.2.2.2.2.2) fun e a w' h=>?_
          cases e with
          | normal =>
            obtain ⟨hD',v124,v125,v126,v127,v128,v129,v130,v131,v132,v133,v134,v135,v136,v137,v138,v139,v140,v141,v142,rfl⟩:=h
            have cf:=hD'.cells.2.2.2 (n * 7+6)
            obtain ⟨u6,c6⟩:=hD'.dC7
            have e1:K.set i key=keys.take i++key :: keys.drop i:=aW0 (cN0 HN.out.2.2.2.cN9 HN.out.1) HN.out.2.1
            have e2:D.set i ⟨z0,z1,s2,q3,l3,p3,q4,l4,p4⟩=kids.take i++⟨z0,z1,s2,q3,l3,p3,q4,l4,p4⟩ :: kids.drop i:=aW0 (cN0 HN.out.2.2.2.cB7 HN.out.1) HN.out.2.2.1
            rw [e1,e2] at hD'
            have HD':Aside _:=hD'
            clear hD' HN e1 e2
            go_wp2
            go_end0
            refine ⟨rfl,kb,kc,db,dc,w',?_,rfl⟩
            rw [← HPD.out]
            exact HD'.out
          | _=>exact (h:False).elim
end Go.Vm.ObjR
