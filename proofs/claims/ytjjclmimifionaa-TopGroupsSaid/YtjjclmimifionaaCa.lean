/-
  list.copied,by hand: clones,and rows of data whose cells are put anew.
-/
import Derived.Test.YtjjclmimifionaaHa
import Derived.Test.YtjjclmimifionaaHc
import Derived.Test.YtjjclmimifionaaVmD
import Derived.Deep.LoopGhost
namespace Go.Vm.TopG
open Go.Proofs
open Go.RowKit
theorem own_rd {D D':Nat→Prop} {w:World} {v:Value} {κ:TypeId} {sz:Nat} {es:List (List Dat)} (h:OwnAt D w v κ sz es) (hs:∀ b,D b→D' b) (hb:∀ b,blk v=some b→D' b):RD D' w (.sl sz es) v:=by
 simp only [RD]
 rcases h with ⟨rfl,rfl⟩ | ⟨b,off,c,arr,E,fz,rfl,h1,h2,h3,h4,h5,h6⟩
 ·exact .inl ⟨⟨_,rfl⟩,rfl⟩
 ·exact .inr ⟨b,off,c,arr,E,fz,rfl,h1,hb b rfl,h4,REs.mono hs (fun _ _=>rfl) sz es _ _ h6⟩
/-- What a clone hands back. -/
theorem clone_own {k κ sz:Nat} {es:List (List Dat)} (hc:ACall Try.prog k [.d (.sl sz es)] [] (.own κ sz es) []) (w:World) {D:Nat→Prop} (hD:∀ b,D b→b < w.heap.size) {u:Value} (hu:RD D w (.sl sz es) u) :
  Calls Try.prog k #[u] w fun e w'=>∃ v D',e=.returned v∧Below w.heap.size w w'∧(∀ b,D b→D' b)∧(∀ b,D' b→b < w'.heap.size∧(D b∨w.heap.size≤b))∧OwnAt D' w' v κ sz es∧∀ b,blk v=some b→¬ D' b∧w.heap.size≤b:=by
 refine (belowS (us:=[u]) hc rfl (show 1 < resSlot by decide) rfl hD ⟨hu,trivial⟩).mono ?_
 rintro e W' ⟨v,S',β',rfl,h⟩
 have hv:v=β' (resSlot,0)∧OwnAt S' W' v κ sz es:=h.val
 refine ⟨v,S',rfl,h.below,h.sub,h.bnd,hv.2,fun b hb=>h.own 0 b rfl (by rw [← hv.1]; exact hb)⟩
theorem clone_at {k κ sz:Nat} {es:List (List Dat)} (hc:ACall Try.prog k [.d (.sl sz es)] [] (.own κ sz es) []) (w:World) {D:Nat→Prop} (hD:∀ b,D b→b < w.heap.size) {u:Value} (hu:RD D w (.sl sz es) u) :
  Calls Try.prog k #[u] w fun e w'=>∃ v D',e=.returned v∧Below w.heap.size w w'∧(∀ b,D b→D' b)∧(∀ b,D' b→b < w'.heap.size∧(D b∨w.heap.size≤b))∧RD D' w' (.sl sz es) v:=by
 refine (clone_own hc w hD hu).mono ?_
 rintro e w' ⟨v,D',rfl,hb,h1,h2,h3,h4⟩
 refine ⟨v,fun b=>D' b∨blk v=some b,rfl,hb,fun b hb=>.inl (h1 b hb),fun b hb=>?_,own_rd h3 (fun _=>.inl) fun _=>.inr⟩
 rcases hb with hb | hb
 ·exact h2 b hb
 ·exact ⟨h3.lt hb,.inr (h4 b hb).2⟩
/-- A row that is owned,opened. -/
structure RowAt (D:Nat→Prop) (w:World) (R off:Nat) (arr:Array Value) (E:TypeId) (fz:Nat×Nat) (sz:Nat) (es:List (List Dat)):Prop where
 size:off+es.length * sz≤arr.size
 fzo:FzOk fz arr.size
 at_:w.heap[R]? = some (.cells arr E fz)
 cs:REs D w sz es (fun j=>arr[j]?) off
theorem RowAt.cell {D:Nat→Prop} {w:World} {R off:Nat} {arr:Array Value} {E:TypeId} {fz:Nat×Nat} {sz:Nat} {es:List (List Dat)} (h:RowAt D w R off arr E fz sz es) {i k:Nat} {e:List Dat} {x:Dat} (he:es[i]? = some e) (hx:e[k]? = some x) :
  ∃ u,w.cell? ⟨R,off+i * sz+k,none⟩=some u∧RD D w x u∧w.frozen? ⟨R,off+i * sz+k,none⟩=false∧off+i * sz+k < arr.size:=by
 obtain ⟨h1,h2⟩:=REs.get es off i e h.cs he
 obtain ⟨u,h3,h4⟩:=RCs.get e (off+i * sz) k x h2 hx
 have hlt:off+i * sz+k < arr.size:=by
  rcases Nat.lt_or_ge (off+i * sz+k) arr.size with h' | h'
  ·exact h'
  ·rw [Array.getElem?_eq_none h'] at h3; cases h3
 refine ⟨u,by rw [cell_of h.at_]; exact h3,h4,?_,hlt⟩
 have:=h.fzo.out _ hlt
 simp only [World.frozen?,h.at_]
 simpa using this
theorem RowAt.mono {D D':Nat→Prop} {w w':World} {R off:Nat} {arr:Array Value} {E:TypeId} {fz:Nat×Nat} {sz:Nat} {es:List (List Dat)} (h:RowAt D w R off arr E fz sz es) (hs:∀ b,D b→D' b) (ha:Agree D w w') (hR:w'.heap[R]? = w.heap[R]?):RowAt D' w' R off arr E fz sz es :=
 ⟨h.size,h.fzo,hR.trans h.at_,REs.mono hs ha sz es _ _ h.cs⟩
/-- A cell is put anew by a value of the same datum. -/
theorem RowAt.put {D:Nat→Prop} {w:World} {R off:Nat} {arr:Array Value} {E:TypeId} {fz:Nat×Nat} {sz:Nat} {es:List (List Dat)} (h:RowAt D w R off arr E fz sz es) (hR:¬ D R) {i k:Nat} {e:List Dat} {x:Dat} (he:es[i]? = some e) (hx:e[k]? = some x) {u:Value} (hu:RD D w x u) :
  RowAt D (w.setCell ⟨R,off+i * sz+k,none⟩ u) R off (arr.setIfInBounds (off+i * sz+k) u) E fz sz es:=by
 have hag:Agree D w (w.setCell ⟨R,off+i * sz+k,none⟩ u):=fun b hb=>Below.heap_setCell _ _ _ _ (fun e=>hR (by have e:b=R:=e; rw [← e]; exact hb))
 refine ⟨by simpa using h.size,by simpa using h.fzo,setCell_get _ _ _ _ h.at_,REs.of_get es off fun j e' he'=>?_⟩
 obtain ⟨h1,h2⟩:=REs.get es off j e' h.cs he'
 refine ⟨h1,RCs.of_get e' _ fun l y hy=>?_⟩
 obtain ⟨v,hv,hr⟩:=RCs.get e' (off+j * sz) l y h2 hy
 have hk:k < sz:=by rw [← (REs.get es off i e h.cs he).1]; exact (List.getElem?_eq_some_iff.1 hx).1
 have hl:l < sz:=by rw [← h1]; exact (List.getElem?_eq_some_iff.1 hy).1
 by_cases hjl:off+i * sz+k=off+j * sz+l
 ·have hij:i=j:=by
   rcases Nat.lt_trichotomy i j with h' | h' | h'
   ·have:(i+1) * sz≤j * sz:=Nat.mul_le_mul_right sz h'
    rw [Nat.add_mul] at this; omega
   ·exact h'
   ·have:(j+1) * sz≤i * sz:=Nat.mul_le_mul_right sz h'
    rw [Nat.add_mul] at this; omega
  subst hij
  have hkl:k=l:=by omega
  subst hkl
  rw [he] at he'
  cases he'
  rw [hx] at hy
  cases hy
  refine ⟨u,?_,RD.mono (fun _ h=>h) hag _ _ hu⟩
  have:off+i * sz+k < arr.size:=by
   rcases Nat.lt_or_ge (off+i * sz+k) arr.size with h' | h'
   ·exact h'
   ·simp only [Array.getElem?_eq_none h'] at hv; cases hv
  simp [this]
 ·refine ⟨v,?_,RD.mono (fun _ h=>h) hag _ _ hr⟩
  show (arr.setIfInBounds _ u)[_]? = _
  rw [Array.getElem?_setIfInBounds_ne hjl]
  exact hv
theorem own_row {D:Nat→Prop} {w:World} {v:Value} {κ:TypeId} {sz:Nat} {es:List (List Dat)} (h:OwnAt D w v κ sz es) (hne:es≠[]):∃ R off c arr E fz,v=.slice (some ⟨R,off,none⟩) es.length c∧es.length≤c∧RowAt D w R off arr E fz sz es:=by
 rcases h with ⟨rfl,h⟩ | ⟨b,off,c,arr,E,fz,rfl,h1,h2,h3,h4,h5,h6⟩
 ·exact absurd h hne
 ·refine ⟨b,off,c,arr,E,fz,rfl,h1,?_,h3,h4,h6⟩
  have:=Nat.mul_le_mul_right sz h1
  omega
end Go.Vm.TopG
namespace Go.Vm.TopG
open Go.Proofs
open Go.RowKit
def lstZ:Array Value:=#[.int .i64 0,.int .i64 0,.slice none 0 0,.slice none 0 0]
/-- The state of the copying: B: the block of the copy; R: the row of the items. -/
structure CpSt (W:World) (S:Nat→Prop) (a0:S_List) (v2:Value) (R off c:Nat) (D:Nat→Prop) (E:TypeId) (fz:Nat×Nat) (w:World):Prop where
 below:Below W.heap.size W w
 sub:∀ b,D b→b < w.heap.size∧(S b∨W.heap.size+2≤b)
 sup:∀ b,S b→D b
 hB:w.heap[W.heap.size]? = some (.cells #[.int .i64 a0.f0,.int .i64 a0.f1,v2,.slice (some ⟨R,off,none⟩) a0.f3.length c] 25 (0,0))
 hZ:w.heap[W.heap.size+1]? = some (.cells lstZ 25 (0,0))
 d2:RD D w (.sl 1 (a0.f2.map cS)) v2
 row:∃ arr,RowAt D w R off arr E fz 34 (a0.f3.map cS_Item)
 apart:¬ D R∧W.heap.size+2≤R
section
variable {W w w':World} {S D D':Nat→Prop} {a0:S_List} {v2:Value} {R off c:Nat} {E:TypeId} {fz:Nat×Nat}
theorem CpSt.next (h:CpSt W S a0 v2 R off c D E fz w) (hS:∀ b,S b→b < W.heap.size) (hb:Below w.heap.size w w') (h1:∀ b,D b→D' b) (h2:∀ b,D' b→b < w'.heap.size∧(D b∨w.heap.size≤b)):CpSt W S a0 v2 R off c D' E fz w':=by
 have hR:R < w.heap.size:=by obtain ⟨arr,hr⟩:=h.row; exact heap_lt hr.at_
 have hag:Agree D w w':=fun b hb'=>hb.block b (h.sub b hb').1
 obtain ⟨arr,hr⟩:=h.row
 refine ⟨h.below.trans (hb.mono h.below.size),fun b hb'=>⟨(h2 b hb').1,?_⟩,fun b hb'=>h1 b (h.sup b hb'),(hb.block _ (heap_lt h.hB)).trans h.hB,(hb.block _ (heap_lt h.hZ)).trans h.hZ,RD.mono h1 hag _ _ h.d2,⟨arr,hr.mono h1 hag (hb.block _ hR)⟩,fun hd=>?_,h.apart.2⟩
 ·rcases (h2 b hb').2 with h' | h'
  ·exact (h.sub b h').2
  ·right; have:=heap_lt h.hZ; omega
 ·rcases (h2 R hd).2 with h' | h'
  ·exact h.apart.1 h'
  ·omega
theorem CpSt.put (h:CpSt W S a0 v2 R off c D E fz w) (hS:∀ b,S b→b < W.heap.size) {i k:Nat} {x:S_Item} {y:Dat} (hx:a0.f3[i]? = some x) (hy:(cS_Item x)[k]? = some y) {u:Value} (hu:RD D w y u):CpSt W S a0 v2 R off c D E fz (w.setCell ⟨R,off+i * 34+k,none⟩ u):=by
 obtain ⟨arr,hr⟩:=h.row
 have hag:Agree D w (w.setCell ⟨R,off+i * 34+k,none⟩ u):=fun b hb=>Below.heap_setCell _ _ _ _ (fun e=>h.apart.1 (by have e:b=R:=e; rw [← e]; exact hb))
 have hRB:R≠W.heap.size:=by have:=h.apart.2; omega
 have hRZ:R≠W.heap.size+1:=by have:=h.apart.2; omega
 refine ⟨h.below.setCell (show W.heap.size≤R by have:=h.apart.2; omega) _,fun b hb=>⟨by rw [World.size_setCell]; exact (h.sub b hb).1,(h.sub b hb).2⟩,h.sup,(Below.heap_setCell _ _ _ _ (Ne.symm hRB)).trans h.hB,(Below.heap_setCell _ _ _ _ (Ne.symm hRZ)).trans h.hZ,RD.mono (fun _ h=>h) hag _ _ h.d2,
  ⟨_,hr.put h.apart.1 (e:=cS_Item x) (by simp [hx]) hy hu⟩,h.apart⟩
theorem CpSt.cell (h:CpSt W S a0 v2 R off c D E fz w) {i k:Nat} {x:S_Item} {y:Dat} (hx:a0.f3[i]? = some x) (hy:(cS_Item x)[k]? = some y):∃ u,w.cell? ⟨R,off+i * 34+k,none⟩=some u∧RD D w y u∧w.frozen? ⟨R,off+i * 34+k,none⟩=false:=by
 obtain ⟨arr,hr⟩:=h.row
 obtain ⟨u,h1,h2,h3,_⟩:=hr.cell (i:=i) (e:=cS_Item x) (by simp [hx]) hy
 exact ⟨u,h1,h2,h3⟩
theorem CpSt.put' (h:CpSt W S a0 v2 R off c D E fz w) (hS:∀ b,S b→b < W.heap.size) {i:Nat} (k A:Nat) {x:S_Item} {y:Dat} (hx:a0.f3[i]? = some x) (hA:off+i * 34+k=A) (hy:(cS_Item x)[k]? = some y) {u:Value} (hu:RD D w y u):CpSt W S a0 v2 R off c D E fz (w.setCell ⟨R,A,none⟩ u):=by
 subst hA
 exact h.put hS hx hy hu
theorem CpSt.cell' (h:CpSt W S a0 v2 R off c D E fz w) {i:Nat} (k A:Nat) {x:S_Item} {y:Dat} (hx:a0.f3[i]? = some x) (hA:off+i * 34+k=A) (hy:(cS_Item x)[k]? = some y):∃ u,w.cell? ⟨R,A,none⟩=some u∧RD D w y u∧w.frozen? ⟨R,A,none⟩=false:=by
 subst hA
 exact h.cell hx hy
end
theorem rd_slice {α:Type} {f:α→List Dat} {D:Nat→Prop} {w:World} {sz:Nat} {l:List α} {v:Value} (h:RD D w (.sl sz (l.map f)) v):∃ q c,v=.slice q l.length c:=by
 simp only [RD] at h
 rcases h with ⟨⟨q,rfl⟩,h⟩ | ⟨b,off,c,arr,E,fz,rfl,_⟩
 ·obtain rfl:=List.map_eq_nil_iff.1 h
  exact ⟨q,0,rfl⟩
 ·exact ⟨_,c,by rw [List.length_map]⟩
theorem item_1 (x:S_Item):(cS_Item x)[1]? = some (.sl 3 (x.f1.map cS_Run)):=by kernel_rfl
theorem item_16 (x:S_Item):(cS_Item x)[16]? = some (.sl 9 (x.f2.f5.map cS_Stop)):=by kernel_rfl
theorem item_19 (x:S_Item):(cS_Item x)[19]? = some (.sl 8 (x.f2.f6.f2.map cS_Inks)):=by kernel_rfl
theorem item_20 (x:S_Item):(cS_Item x)[20]? = some (.sl 1 (x.f2.f6.f3.map cU)):=by kernel_rfl
theorem set4 {w:World} {b:Nat} {a0 a1 a2 a3:Value} {E:TypeId} (h:w.heap[b]? = some (.cells #[a0,a1,a2,a3] E (0,0))) (v0 v1 v2 v3:Value) :
  ((((w.setCell ⟨b,0,none⟩ v0).setCell ⟨b,1,none⟩ v1).setCell ⟨b,2,none⟩ v2).setCell ⟨b,3,none⟩ v3).heap[b]? = some (.cells #[v0,v1,v2,v3] E (0,0)) :=
 setCell_get _ _ _ _ (setCell_get _ _ _ _ (setCell_get _ _ _ _ (setCell_get _ _ _ _ h)))
theorem below4 {B:Nat} {W w:World} {b:Nat} (h:Below B W w) (hb:B≤b) (v0 v1 v2 v3:Value):Below B W ((((w.setCell ⟨b,0,none⟩ v0).setCell ⟨b,1,none⟩ v1).setCell ⟨b,2,none⟩ v2).setCell ⟨b,3,none⟩ v3) :=
 (((h.setCell hb _).setCell hb _).setCell hb _).setCell hb _
theorem agree4 {D:Nat→Prop} {w:World} {b:Nat} (hb:¬ D b) (v0 v1 v2 v3:Value):Agree D w ((((w.setCell ⟨b,0,none⟩ v0).setCell ⟨b,1,none⟩ v1).setCell ⟨b,2,none⟩ v2).setCell ⟨b,3,none⟩ v3):=fun c hc=>by
 have:c≠b:=fun e=>hb (e ▸ hc)
 rw [Below.heap_setCell _ _ _ _ (by exact this),Below.heap_setCell _ _ _ _ (by exact this),Below.heap_setCell _ _ _ _ (by exact this),Below.heap_setCell _ _ _ _ (by exact this)]
theorem results_cell1 {fn:Func} {p:Tmp} {ty:TypeId} (h:fn.results=#[.cell p ty]) (tmps:Array Value) (P:Program) (w:World) :
  (results fn tmps).run P w=((asAddr (tmps.getD p undef)).run P w).andThen fun a w₁=>((loadVar ty a).run P w₁).andThen fun v w₂=>.ok v w₂:=by
 simp only [results,h]
 simp [Sem.run_bind,Result.andThen]
 cases Sem.run P (asAddr (tmps[p]?.getD undef)) w with
 | ok a w=>simp only []; cases Sem.run P (loadVar ty a) w <;> rfl
 | halt h w=>rfl
theorem ret_list {R:Ending→World→Prop} {w:World} {b:Nat} {v0 v1 v2 v3:Value} {a:Act} (h:w.heap[b]? = some (.cells #[v0,v1,v2,v3] 25 (0,0))) (h2:a.tmps.getD 2 undef=.pointer (some ⟨b,0,none⟩)) (hd:a.defers=[])
  (hR:R (.returned (.agg #[v0,v1,v2,v3])) w):bodyPost Try.prog Try.f14 R .ret a w:=by
 have q0:w.cell? ⟨b,0,none⟩=some v0:=by rw [cell_of h]; rfl
 have q1:w.cell? ⟨b,1,none⟩=some v1:=by rw [cell_of h]; rfl
 have q2:w.cell? ⟨b,2,none⟩=some v2:=by rw [cell_of h]; rfl
 have q3:w.cell? ⟨b,3,none⟩=some v3:=by rw [cell_of h]; rfl
 refine bodyPost_ret (v:=.agg #[v0,v1,v2,v3]) ?_ hd hR
 rw [results_cell1 (show Try.f14.results=#[.cell 2 25] by kernel_rfl),h2]
 simp [go_sem,q0,q1,q2,q3]
theorem chk_self {α:Type} {p:Prop} [Decidable p] (h:p) (x:Option α):chk p x=x:=by simp [chk,h]
theorem cl_string {l:List (List UInt8)} (h:l.length≤4294967296):slices_Clone_string 0 l=some l:=chk_self (by simpa using h) _
theorem cl_Item {l:List S_Item} (h:l.length≤4294967296):slices_Clone_Item 0 l=some l:=chk_self (by simpa using h) _
theorem cl_Run {l:List S_Run} (h:l.length≤4294967296):slices_Clone_Run 0 l=some l:=chk_self (by simpa using h) _
theorem cl_Stop {l:List S_Stop} (h:l.length≤4294967296):slices_Clone_Stop 0 l=some l:=chk_self (by simpa using h) _
theorem cl_Inks {l:List S_Inks} (h:l.length≤4294967296):slices_Clone_Inks 0 l=some l:=chk_self (by simpa using h) _
theorem cl_uint8 {l:List UInt8} (h:l.length≤4294967296):slices_Clone_uint8 0 l=some l:=chk_self (by simpa using h) _
theorem two_below (W:World) (o p:Obj):Below W.heap.size W ((W.alloc o).alloc p):=((Below.refl _ _).alloc (Nat.le_refl _) o).alloc (by simp) p
/-- What is handed back at the end. -/
theorem copy_end {W w:World} {S D:Nat→Prop} {a0:S_List} {v2:Value} {R off c:Nat} {E:TypeId} {fz:Nat×Nat} (hS:∀ b,S b→b < W.heap.size) (h:CpSt W S a0 v2 R off c D E fz w) {y0 y1 y2 y3:Value} {wF:World} (hw:wF=(((w.setCell ⟨W.heap.size+1,0,none⟩ y0).setCell ⟨W.heap.size+1,1,none⟩ y1).setCell ⟨W.heap.size+1,2,none⟩ y2).setCell ⟨W.heap.size+1,3,none⟩ y3) (hc:a0.f3.length≤c) :
  (∀ b,D b∨b=R→b < wF.heap.size∧(S b∨W.heap.size≤b))∧RD (fun b=>D b∨b=R) wF (.sl 1 (a0.f2.map cS)) v2∧RD (fun b=>D b∨b=R) wF (.sl 34 (a0.f3.map cS_Item)) (.slice (some ⟨R,off,none⟩) a0.f3.length c):=by
 subst hw
 have hZD:¬ D (W.heap.size+1):=fun hd=>by
  rcases (h.sub _ hd).2 with h' | h'
  ·have:=hS _ h'; omega
  ·omega
 have hag:=agree4 hZD y0 y1 y2 y3 (w:=w)
 obtain ⟨arr,hr⟩:=h.row
 have hRlt:=heap_lt hr.at_
 have hRZ:R≠W.heap.size+1:=by have:=h.apart.2; omega
 refine ⟨fun b hb=>?_,RD.mono (fun _=>.inl) hag _ _ h.d2,?_⟩
 ·simp only [World.size_setCell]
  rcases hb with hb | rfl
  ·exact ⟨(h.sub b hb).1,(h.sub b hb).2.imp id fun h=>by omega⟩
  ·exact ⟨hRlt,.inr (by have:=h.apart.2; omega)⟩
 ·simp only [RD]
  refine .inr ⟨R,off,c,arr,E,fz,by rw [List.length_map],by rw [List.length_map]; exact hc,.inr rfl,?_,REs.mono (fun _=>.inl) hag _ _ _ _ hr.cs⟩
  rw [Below.heap_setCell _ _ _ _ (by exact hRZ),Below.heap_setCell _ _ _ _ (by exact hRZ),Below.heap_setCell _ _ _ _ (by exact hRZ),Below.heap_setCell _ _ _ _ (by exact hRZ)]
  exact hr.at_
theorem wrap_suc {i n:Nat} (h:i < n) (hn:n≤4294967296):wrap64 ((i:Int)+1)=((i+1:Nat):Int):=by
 unfold wrap64; omega
set_option maxRecDepth 100000 in
set_option maxHeartbeats 4000000 in
theorem copied_at (W:World) {S:Nat→Prop} (hS:∀ b,S b→b < W.heap.size) {a0:S_List} {u2 u3:Value} (hu2:RD S W (.sl 1 (a0.f2.map cS)) u2) (hu3:RD S W (.sl 34 (a0.f3.map cS_Item)) u3) (hok:copyOk a0=true) :
  Calls Try.prog 14 #[.agg #[.int .i64 a0.f0,.int .i64 a0.f1,u2,u3]] W fun e W'=>∃ v2 v3 D,e=.returned (.agg #[.int .i64 a0.f0,.int .i64 a0.f1,v2,v3])∧Below W.heap.size W W'∧(∀ b,D b→b < W'.heap.size∧(S b∨W.heap.size≤b))∧RD D W' (.sl 1 (a0.f2.map cS)) v2∧RD D W' (.sl 34 (a0.f3.map cS_Item)) v3:=by
 unfold copyOk at hok
 simp only [Bool.and_eq_true,decide_eq_true_eq] at hok
 obtain ⟨⟨ho1,ho2⟩,ho3⟩:=hok
 obtain ⟨q2,c2,rfl⟩:=rd_slice hu2
 obtain ⟨q3,c3,rfl⟩:=rd_slice hu3
 go_enter Try.func14,Try.ntmps14
 go_wp2_with (go_at_fn 23)
 obtain ⟨hA,hZ⟩:=two_new W (.cells #[.int .i64 a0.f0,.int .i64 a0.f1,.slice q2 a0.f2.length c2,.slice q3 a0.f3.length c3] 25 (0,0)) (.cells lstZ 25 (0,0))
 have hB0:=two_below W (.cells #[.int .i64 a0.f0,.int .i64 a0.f1,.slice q2 a0.f2.length c2,.slice q3 a0.f3.length c3] 25 (0,0)) (.cells lstZ 25 (0,0))
 unfold lstZ at hA hZ hB0
 have hag0:Agree S W _:=fun b hb=>hB0.block b (hS b hb)
 have hu2:=RD.mono (fun _ h=>h) hag0 _ _ hu2
 have hu3:=RD.mono (fun _ h=>h) hag0 _ _ hu3
 have hS0:=fun b hb=>Nat.lt_of_lt_of_le (hS b hb) hB0.size
 have hsz:W.heap.size+1 < ((W.alloc (.cells #[.int .i64 a0.f0,.int .i64 a0.f1,.slice q2 a0.f2.length c2,.slice q3 a0.f3.length c3] 25 (0,0))).alloc (.cells lstZ 25 (0,0))).heap.size:=heap_lt hZ
 revert hA hZ hB0 hag0 hu2 hu3 hS0 hsz
 unfold lstZ
 generalize (W.alloc _).alloc _=w0
 intro hA hZ hB0 hag0 hu2 hu3 hS0 hsz
 refine (clone_at (slices_Clone_string_ok (cl_string ho1)) w0 hS0 hu2).mono ?_
 rintro e w1 ⟨v2,D1,rfl,hb1,hs1,hd1,hv2⟩
 obtain ⟨p2,d2,rfl⟩:=rd_slice hv2
 have hA1:=(hb1.block _ (heap_lt hA)).trans hA
 have hAc:=cell_of hA1
 have hAf:=frz_of hA1
 go_wp2_with (go_at_fn 24)
 have hB1:=hB0.trans (hb1.mono hB0.size)
 have hZ1:=(hb1.block _ (heap_lt hZ)).trans hZ
 have hag1:Agree D1 w1 (w1.setCell ⟨W.heap.size,2,none⟩ (.slice p2 a0.f2.length d2)):=fun b hb=>Below.heap_setCell _ _ _ _ (fun e=>by
  have e:b=W.heap.size:=e
  rcases (hd1 b hb).2 with h | h
  ·have:=hS b h; omega
  ·omega)
 have hsub1:∀ b,D1 b→b < (w1.setCell ⟨W.heap.size,2,none⟩ (.slice p2 a0.f2.length d2)).heap.size:=fun b hb=>by rw [World.size_setCell]; exact (hd1 b hb).1
 have hA2:=setCell_get w1 W.heap.size 2 (.slice p2 a0.f2.length d2) hA1
 have hZ2:=(Below.heap_setCell w1 ⟨W.heap.size,2,none⟩ (.slice p2 a0.f2.length d2) (W.heap.size+1) (by simp)).trans hZ1
 have hB2:=hB1.setCell (show W.heap.size≤(⟨W.heap.size,2,none⟩:Addr).block from Nat.le_refl _) (.slice p2 a0.f2.length d2)
 have hv2:=RD.mono (fun _ h=>h) hag1 _ _ hv2
 have hu3:=RD.mono (fun _ h=>h) hag1 _ _ (RD.mono hs1 (fun b hb=>hb1.block b (hS0 b hb)) _ _ hu3)
 have hsz2:W.heap.size+1 < (w1.setCell ⟨W.heap.size,2,none⟩ (.slice p2 a0.f2.length d2)).heap.size:=heap_lt hZ2
 replace hd1:∀ b,D1 b→S b∨W.heap.size+2≤b:=fun b hb=>(hd1 b hb).2.imp id fun h=>by omega
 clear hA1 hAc hAf hag1 hb1 hZ1 hB1 hA hZ hu2
 revert hA2 hZ2 hB2 hv2 hu3 hsz2 hsub1
 generalize w1.setCell _ _=w2
 intro hsub1 hA2 hZ2 hB2 hv2 hu3 hsz2
 refine (clone_own (slices_Clone_Item_ok (cl_Item ho2)) w2 hsub1 hu3).mono ?_
 rintro e w3 ⟨v3,D2,rfl,hb3,hs2,hd2,hv3,hn3⟩
 have hA3:=(hb3.block _ (heap_lt hA2)).trans hA2
 have hZ3:=(hb3.block _ (heap_lt hZ2)).trans hZ2
 have hB3:=hB2.trans (hb3.mono hB2.size)
 have hv2:=RD.mono hs2 (fun b hb=>hb3.block b (hsub1 b hb)) _ _ hv2
 have hsub3:∀ b,D2 b→b < w3.heap.size∧(S b∨W.heap.size+2≤b):=fun b hb=>⟨(hd2 b hb).1,by
  rcases (hd2 b hb).2 with h | h
  ·exact hd1 b h
  ·right; omega⟩
 have hAc:=cell_of hA3
 have hAf:=frz_of hA3
 by_cases hne:a0.f3=[]
 ·have hr3:=own_rd (D':=fun b=>D2 b∨blk v3=some b) hv3 (fun _=>.inl) fun _=>.inr
  have hbl:∀ b,blk v3=some b→b < w3.heap.size∧W.heap.size+2≤b:=fun b hb=>⟨hv3.lt hb,by have:=(hn3 b hb).2; omega⟩
  obtain ⟨q4,c4,rfl⟩:=rd_slice hr3
  have hlen:a0.f3.length=0:=by rw [hne]; rfl
  rw [hlen] at hr3 hbl ⊢
  have hA4:=setCell_get w3 W.heap.size 3 (.slice q4 0 c4) hA3
  have hZ4:=(Below.heap_setCell w3 ⟨W.heap.size,3,none⟩ (.slice q4 0 c4) (W.heap.size+1) (by simp)).trans hZ3
  have hB4:=hB3.setCell (show W.heap.size≤(⟨W.heap.size,3,none⟩:Addr).block from Nat.le_refl _) (.slice q4 0 c4)
  have hag:Agree (fun b=>D2 b∨blk (.slice q4 0 c4)=some b) w3 (w3.setCell ⟨W.heap.size,3,none⟩ (.slice q4 0 c4)):=fun b hb=>Below.heap_setCell _ _ _ _ (fun e=>by
   have e:b=W.heap.size:=e
   rcases hb with hb | hb
   ·rcases (hsub3 b hb).2 with h | h
    ·have:=hS b h; omega
    ·omega
   ·have:=(hbl b hb).2; omega)
  have hc4:=cell_of hA4
  have hZc:=cell_of hZ4
  have hZf:=frz_of hZ4
  have h2:=RD.mono (fun _ h=>h) hag _ _ (RD.mono (fun _=>.inl) (fun _ _=>rfl) _ _ hv2)
  have h3:=RD.mono (fun _ h=>h) hag _ _ hr3
  have hsb:∀ b,D2 b∨blk (.slice q4 0 c4)=some b→b < w3.heap.size∧(S b∨W.heap.size+2≤b):=fun b hb=>hb.elim (hsub3 b) fun hb=>⟨(hbl b hb).1,.inr (hbl b hb).2⟩
  clear hv3 hn3 hr3 hag hbl hv2 hu3 hs2 hd2 hA2 hZ2 hB2 hsub1 hsz2 hs1 hd1
  go_wp2
  refine wp_loop_rounds 1 ?_
  rw [rounds_succ]
  go_wp2
  have hZD:¬ (D2 (W.heap.size+1)∨blk (.slice q4 0 c4)=some (W.heap.size+1)):=fun hd=>by
   rcases (hsb _ hd).2 with h | h
   ·have:=hS _ h; omega
   ·omega
  exact ret_list (set4 hZ4 _ _ _ _) rfl rfl ⟨_,_,_,rfl,below4 hB4 (Nat.le_succ _) _ _ _ _,fun b hb=>⟨by simp only [World.size_setCell]; exact (hsb b hb).1,(hsb b hb).2.imp id fun h=>by omega⟩,RD.mono (fun _ h=>h) (agree4 hZD _ _ _ _) _ _ h2,RD.mono (fun _ h=>h) (agree4 hZD _ _ _ _) _ _ h3⟩
 ·obtain ⟨R,off,c,arr,E,fz,rfl,hc,hrow⟩:=own_row hv3 (by simpa using hne)
  have hR:=hn3 R rfl
  rw [List.length_map] at hc ⊢
  have hRB:W.heap.size≠R:=by omega
  have hRZ:W.heap.size+1≠R:=by omega
  have hC:CpSt W S a0 (.slice p2 a0.f2.length d2) R off c D2 E fz (w3.setCell ⟨W.heap.size,3,none⟩ (.slice (some ⟨R,off,none⟩) a0.f3.length c)):=by
   have hag:Agree D2 w3 (w3.setCell ⟨W.heap.size,3,none⟩ (.slice (some ⟨R,off,none⟩) a0.f3.length c)):=fun b hb=>Below.heap_setCell _ _ _ _ (fun e=>by
    have e:b=W.heap.size:=e
    rcases (hsub3 b hb).2 with h | h
    ·have:=hS b h; omega
    ·omega)
   exact ⟨hB3.setCell (Nat.le_refl _) _,fun b hb=>⟨by rw [World.size_setCell]; exact (hsub3 b hb).1,(hsub3 b hb).2⟩,fun b hb=>hs2 b (hs1 b hb),setCell_get w3 W.heap.size 3 _ hA3,(Below.heap_setCell w3 ⟨W.heap.size,3,none⟩ _ (W.heap.size+1) (by simp)).trans hZ3,
    RD.mono (fun _ h=>h) hag _ _ hv2,⟨arr,hrow.mono (fun _ h=>h) hag (Below.heap_setCell _ _ _ _ (Ne.symm hRB))⟩,hR.1,by omega⟩
  have hc4:=cell_of hC.hB
  clear hrow hb3 hB3 hA2 hZ2 hsub3 hs2 hd2 hsub1 hv2 hu3 hsz2 hB2 hZ3 hn3 hs1 hd1 hR hRB hRZ hsz hS0 hag0 hB0 hv3
  go_wp2
  have HC:Aside _:=hC
  clear hC hc4 hAc hAf hA3 hu3 hv2
  go_loopg [16] (a0.f3.length) (fun g v16 wx=>∃ (i:Nat) (D:Nat→Prop),g+i=a0.f3.length∧v16=.int .i64 (i:Int)∧CpSt W S a0 (.slice p2 a0.f2.length d2) R off c D E fz wx)
  case atStart=>exact ⟨0,D2,by omega,rfl,HC.out⟩
  case round =>
   obtain ⟨i,D,hgi,rfl,hCp⟩:=hrel
   by_cases hi:i < a0.f3.length
   ·have hwk:=wrap_suc hi ho2
    obtain ⟨x,hx⟩:∃ x,a0.f3[i]? = some x:=⟨_,List.getElem?_eq_getElem hi⟩
    have ho3:=List.all_eq_true.1 ho3 x (List.mem_of_getElem? hx)
    simp only [Bool.and_eq_true,decide_eq_true_eq] at ho3
    obtain ⟨u0,hc0,hr0,hf0⟩:=hCp.cell' 1 (off+i * 34+1) hx rfl (item_1 x)
    obtain ⟨q0,e0,rfl⟩:=rd_slice hr0
    have hbc:=cell_of hCp.hB
    go_wp2_with (go_at_fn 25)
    refine (clone_at (slices_Clone_Run_ok (cl_Run ho3.1.1.1)) _ (fun b hb=>(hCp.sub b hb).1) hr0).mono ?_
    rintro e y0 ⟨z0,E0,rfl,hy0,hs0,hd0,hz0⟩
    obtain ⟨r0,f0,rfl⟩:=rd_slice hz0
    have hD0:=hCp.next hS hy0 hs0 hd0
    obtain ⟨o0,hco0,-,hfz0⟩:=hD0.cell' 1 (off+i * 34+1) hx rfl (item_1 x)
    have hP0:=hD0.put' hS 1 (off+i * 34+1) hx rfl (item_1 x) hz0
    clear hc0 hr0 hf0 hbc hCp hy0 hs0 hd0 hD0 hz0
    obtain ⟨u1,hc1,hr1,hf1⟩:=hP0.cell' 16 (off+i * 34+2+14) hx rfl (item_16 x)
    obtain ⟨q1,e1,rfl⟩:=rd_slice hr1
    have hbc:=cell_of hP0.hB
    go_wp2_with (go_at_fn 26)
    refine (clone_at (slices_Clone_Stop_ok (cl_Stop ho3.1.1.2)) _ (fun b hb=>(hP0.sub b hb).1) hr1).mono ?_
    rintro e y1 ⟨z1,E1,rfl,hy1,hs1,hd1,hz1⟩
    obtain ⟨r1,f1,rfl⟩:=rd_slice hz1
    have hD1:=hP0.next hS hy1 hs1 hd1
    obtain ⟨o1,hco1,-,hfz1⟩:=hD1.cell' 16 (off+i * 34+2+14) hx rfl (item_16 x)
    have hP1:=hD1.put' hS 16 (off+i * 34+2+14) hx rfl (item_16 x) hz1
    clear hc1 hr1 hf1 hbc hP0 hy1 hs1 hd1 hD1 hz1
    obtain ⟨u2,hc2,hr2,hf2⟩:=hP1.cell' 19 (off+i * 34+2+15+2) hx rfl (item_19 x)
    obtain ⟨q2,e2,rfl⟩:=rd_slice hr2
    have hbc:=cell_of hP1.hB
    go_wp2_with (go_at_fn 27)
    refine (clone_at (slices_Clone_Inks_ok (cl_Inks ho3.1.2)) _ (fun b hb=>(hP1.sub b hb).1) hr2).mono ?_
    rintro e y2 ⟨z2,E2,rfl,hy2,hs2,hd2,hz2⟩
    obtain ⟨r2,f2,rfl⟩:=rd_slice hz2
    have hD2:=hP1.next hS hy2 hs2 hd2
    obtain ⟨o2,hco2,-,hfz2⟩:=hD2.cell' 19 (off+i * 34+2+15+2) hx rfl (item_19 x)
    have hP2:=hD2.put' hS 19 (off+i * 34+2+15+2) hx rfl (item_19 x) hz2
    clear hc2 hr2 hf2 hbc hP1 hy2 hs2 hd2 hD2 hz2
    obtain ⟨u3,hc3,hr3,hf3⟩:=hP2.cell' 20 (off+i * 34+2+15+3) hx rfl (item_20 x)
    obtain ⟨q3,e3,rfl⟩:=rd_slice hr3
    have hbc:=cell_of hP2.hB
    go_wp2_with (go_at_fn 28)
    refine (clone_at (slices_Clone_uint8_ok (cl_uint8 ho3.2)) _ (fun b hb=>(hP2.sub b hb).1) hr3).mono ?_
    rintro e y3 ⟨z3,E3,rfl,hy3,hs3,hd3,hz3⟩
    obtain ⟨r3,f3,rfl⟩:=rd_slice hz3
    have hD3:=hP2.next hS hy3 hs3 hd3
    obtain ⟨o3,hco3,-,hfz3⟩:=hD3.cell' 20 (off+i * 34+2+15+3) hx rfl (item_20 x)
    have hP3:=hD3.put' hS 20 (off+i * 34+2+15+3) hx rfl (item_20 x) hz3
    clear hc3 hr3 hf3 hbc hP2 hy3 hs3 hd3 hD3 hz3
    have hbc:=cell_of hP3.hB
    go_wp2
    obtain ⟨g',rfl⟩:∃ g',gk=g'+1:=⟨gk - 1,by omega⟩
    go_roundg g'
    case measure=>exact Nat.lt_succ_self _
    case rel=>exact ⟨i+1,_,by omega,by first | rfl | exact congrArg (Value.int .i64) hwk,hP3⟩
   ·have hbc:=cell_of hCp.hB
    have hZ:=hCp.hZ
    unfold lstZ at hZ
    have hZc:=cell_of hZ
    have hZf:=frz_of hZ
    go_wp2
    exact ret_list (set4 hZ _ _ _ _) rfl rfl ⟨_,_,_,rfl,below4 hCp.below (Nat.le_succ _) _ _ _ _,copy_end hS hCp rfl hc⟩
theorem ints_flatS {S:Nat→Prop} {W:World} {k:IntKind}:∀ (xs:List Int) (l:List Value) (o:Nat),l.drop o=xs.map (.int k)→RCs S W (xs.flatMap (cI k)) (fun j=>l[j]?) o
 | [],l,o,_=>trivial
 | x :: xs,l,o,h=>by
  have h1:o < l.length:=by
   rcases Nat.lt_or_ge o l.length with h' | h'
   ·exact h'
   ·rw [List.drop_eq_nil_of_le h'] at h; cases h
  rw [List.drop_eq_getElem_cons h1] at h
  simp only [List.map_cons,List.cons.injEq] at h
  simp only [List.flatMap_cons,cI,List.cons_append,List.nil_append,RCs]
  exact ⟨⟨_,by rw [List.getElem?_eq_getElem h1,h.1],rfl,rfl⟩,ints_flatS xs l (o+1) h.2⟩
theorem list_val {S:Nat→Prop} {W:World} {β:Path→Value} {p:Path} {a0:S_List} {u:Value} (h:RFlat S W β p (.agg (cS_List a0)) u) :
  ∃ u2 u3,u=.agg #[.int .i64 a0.f0,.int .i64 a0.f1,u2,u3]∧RD S W (.sl 1 (a0.f2.map cS)) u2∧RD S W (.sl 34 (a0.f3.map cS_Item)) u3:=by
 obtain ⟨l,rfl,hl,h0,h1,h2,h3,-⟩:=h
 match l,hl with
 | [x0,x1,x2,x3],_ =>
  obtain ⟨y0,e0,h0⟩:=h0
  obtain rfl:x0=y0:=Option.some.inj e0
  obtain ⟨y1,e1,h1⟩:=h1
  obtain rfl:x1=y1:=Option.some.inj e1
  obtain ⟨y2,e2,h2⟩:=h2
  obtain rfl:x2=y2:=Option.some.inj e2
  obtain ⟨y3,e3,h3⟩:=h3
  obtain rfl:x3=y3:=Option.some.inj e3
  simp only [RD] at h0 h1
  exact ⟨_,_,by rw [h0.1,h1.1],h2,h3⟩
theorem list_copied_ok {F:Nat} {a0 r:S_List} (h:list_copied F a0=some r):ACall Try.prog 14 [.agg (cS_List a0)] [] (.agg (cS_List r)) []:=by
 unfold list_copied at h
 obtain ⟨h1,h⟩:=chk_ok h
 cases h
 refine ACall.ofReadsA ⟨_,Try.func14,by kernel_rfl,by kernel_rfl⟩ (fun j=>by cases j <;> rfl) (fun l a e=>by cases e) rfl ?_
 intro w S β us hus hS hrd
 match us,hus with
 | [a],_ =>
  obtain ⟨u2,u3,rfl,h2,h3⟩:=list_val (β:=β) (p:=(0,0)) (hrd 0 _ a rfl rfl)
  refine (copied_at w hS h2 h3 h1).mono ?_
  rintro e w' ⟨v2,v3,D,rfl,hbw,hD,hv2,hv3⟩
  refine ⟨_,rfl,hbw,fun β=>⟨_,rfl,rfl,⟨_,rfl,rfl,rfl⟩,⟨_,rfl,rfl,rfl⟩,⟨_,rfl,?_⟩,⟨_,rfl,?_⟩,trivial⟩⟩
  ·exact RD.mono (fun b hb=>(hD b hb).2.imp id fun h=>⟨h,(hD b hb).1⟩) (fun _ _=>rfl) _ _ hv2
  ·exact RD.mono (fun b hb=>(hD b hb).2.imp id fun h=>⟨h,(hD b hb).1⟩) (fun _ _=>rfl) _ _ hv3
theorem affine_Invert_ok {F:Nat} {a0:S_Matrix} {r:S_Matrix×Int} (h:affine_Invert F a0=some r):ACall Try.prog 53 [.agg (cS_Matrix a0)] [] (.tup [.agg (cS_Matrix r.1),.d (.v (.int .i64 r.2))]) []:=by
 refine ACall.ofReadsA ⟨_,Try.func53,by kernel_rfl,by kernel_rfl⟩ (fun j=>by rcases j with _ | _ | _ | j <;> rfl) (fun l a e=>by cases e) rfl ?_
 intro w S β us hus hS hrd
 match us,hus with
 | [a],_ =>
  have ha:a=matV a0:=mat_val (β:=β) (p:=(0,0)) (hrd 0 _ a rfl rfl)
  subst ha
  refine (Invert_at w h).mono ?_
  rintro e w' ⟨rfl,hbw⟩
  exact ⟨_,rfl,hbw,fun β=>⟨[_,_],rfl,rfl,⟨⟨_,rfl,rfl,ints_flatS (k:=.i64) (matL r.1) _ 0 rfl⟩,⟨rfl,rfl⟩,trivial⟩⟩⟩
end Go.Vm.TopG
