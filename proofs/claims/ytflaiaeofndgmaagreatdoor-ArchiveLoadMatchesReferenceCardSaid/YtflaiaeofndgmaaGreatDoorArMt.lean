/-
  archive.Load: the loader in a world.
-/
import Derived.Test.YtflaiaeofndgmaaGreatDoorArWg
import Derived.Lib.ConvBytes
set_option linter.unusedSectionVars false
namespace Go.Vm.ArzG
open Go.Proofs
open Go.RowKit Go.Vm.ArzM
structure Ld where
 B:List (Int×List UInt8)
 lost:List (List UInt8)
structure LdV where
 l:Nat
 lm:Nat
 lv:Value
 bv:Nat→Value
def LdOwn (L:LdV) (ld:Ld) (b:Nat):Prop:=b=L.l∨b=L.lm∨L.lv.ownBlock=some b∨∃ i,i < ld.B.length∧Go.Vm.blk (L.bv i)=some b
structure LdAt (lo:Nat) (w:World) (A:ArV) (st:Ar) (L:LdV) (ld:Ld):Prop where
 at_:ArAt lo w A st
 cell:w.heap[L.l]? = some (.cells #[.map (some L.lm),.pointer (some ⟨A.a,0,none⟩),L.lv] 48 (0,0))
 mm:MapAt mkI w L.lm (ld.B.map (·.1)) L.bv
 brow:∀ i p,ld.B[i]? = some p→RD (fun b=>Go.Vm.blk (L.bv i)=some b) w (.sl 1 (p.2.map cU)) (L.bv i)
 lrow:w.ownsRow lo 9 1 L.lv ld.lost.length (ld.lost.map strOf)
 low:∀ b,LdOwn L ld b→lo≤b∧¬ st.Own A b
 lt:∀ b,LdOwn L ld b→b < w.heap.size
 d1:L.l≠L.lm
 d2:L.lv.ownBlock≠some L.l∧L.lv.ownBlock≠some L.lm
 d3:∀ i b,i < ld.B.length→Go.Vm.blk (L.bv i)=some b→b≠L.l∧b≠L.lm∧L.lv.ownBlock≠some b
def AllOwn (A:ArV) (st:Ar) (L:LdV) (ld:Ld) (b:Nat):Prop:=st.Own A b∨LdOwn L ld b
theorem mtB:MT Tryz.prog 46 3 72 (.int .i64) mkI (.slice none 0 0) :=
 ⟨by kernel_rfl,by kernel_rfl,fun a=>by simp [MapKept.IsKey,mkI],fun a b h=>by simpa [mkI] using h,fun w=>by kernel_rfl⟩
section
variable {lo:Nat} {w w':World} {A A':ArV} {st st':Ar} {L:LdV} {ld:Ld}
theorem LdAt.ltAll (h:LdAt lo w A st L ld) {b:Nat} (hb:AllOwn A st L ld b):b < w.heap.size:=hb.elim (fun h1=>h.at_.lt h1) (h.lt b)
theorem LdAt.next (h:LdAt lo w A st L ld) (hs:w.heap.size≤w'.heap.size) (hb:∀ b,AllOwn A st L ld b→w'.heap[b]? = w.heap[b]?):LdAt lo w' A st L ld :=
 ⟨h.at_.next fun b h1=>hb b (.inl h1),(hb _ (.inr (.inl rfl))).trans h.cell,h.mm.next (hb _ (.inr (.inr (.inl rfl)))),
  fun i p hp=>RD.mono (fun _ h=>h) (fun b h1=>hb b (.inr (.inr (.inr (.inr ⟨i,get_lt hp,h1⟩))))) _ _ (h.brow i p hp),own_congr h.lrow fun b h1=>hb b (.inr (.inr (.inr (.inl h1)))),h.low,fun b h1=>Nat.lt_of_lt_of_le (h.lt b h1) hs,h.d1,h.d2,h.d3⟩
theorem LdAt.keep (h:LdAt lo w A st L ld) {B:Nat} (hb:Below B w w') (hB:w.heap.size≤B):LdAt lo w' A st L ld:=h.next hb.size fun b hq=>hb.block b (Nat.lt_of_lt_of_le (h.ltAll hq) hB)
theorem LdAt.drew (h:LdAt lo w A st L ld):LdAt lo w.drew A st L ld:=h.keep (Below.refl w.heap.size _).drew (Nat.le_refl _)
theorem LdAt.cells (h:LdAt lo w A st L ld):w.cell? ⟨L.l,0,none⟩=some (.map (some L.lm))∧w.cell? ⟨L.l,1,none⟩=some (.pointer (some ⟨A.a,0,none⟩))∧w.cell? ⟨L.l,2,none⟩=some L.lv∧∀ i,w.frozen? ⟨L.l,i,none⟩=false:=by
 refine ⟨?_,?_,?_,fun i=>?_⟩ <;> simp [World.cell?,World.frozen?,h.cell]
/-- Behind a call of Put. -/
theorem LdAt.put (h:LdAt lo w A st L ld) (ha:A'.a=A.a) (h1:ArAt lo w' A' st') (m:Mv w w' (st.Own A) (st'.Own A')):LdAt lo w' A' st' L ld∧Mv w w' (AllOwn A st L ld) (AllOwn A' st' L ld):=by
 have hb:∀ b,LdOwn L ld b→w'.heap[b]? = w.heap[b]? := fun b h2=>m.block b (h.lt b h2) (h.low b h2).2
 refine ⟨⟨h1,?_,h.mm.next (hb _ (.inr (.inl rfl))),fun i p hp=>RD.mono (fun _ h=>h) (fun b h1=>hb b (.inr (.inr (.inr ⟨i,get_lt hp,h1⟩)))) _ _ (h.brow i p hp),own_congr h.lrow fun b h1=>hb b (.inr (.inr (.inl h1))),fun b h2=>⟨(h.low b h2).1,fun h3=>?_⟩,fun b h2=>Nat.lt_of_lt_of_le (h.lt b h2) m.size,h.d1,h.d2,h.d3⟩,
  m.weak (fun b hb=>.inl hb) fun b hb=>hb.imp id fun h=>.inl (.inr h)⟩
 ·rw [ha]
  exact (hb _ (.inl rfl)).trans h.cell
 ·rcases m.own b h3 with h4 | h4
  ·exact (h.low b h2).2 h4
  ·have:=h.lt b h2
   omega
/-- A lost name is appended. -/
theorem LdAt.lose (h:LdAt lo w A st L ld) {w1:World} {v':Value} {x:List UInt8} (hm:Mv w w1 (fun b=>L.lv.ownBlock=some b) (fun b=>v'.ownBlock=some b)) (hlo:lo≤w.heap.size)
  (hr:w1.ownsRow lo 9 1 v' (ld.lost.length+1) (ld.lost.map strOf++[strOf x])) :
  LdAt lo (w1.setCell ⟨L.l,2,none⟩ v') A st { L with lv:=v' } { ld with lost:=ld.lost++[x] }∧Mv w (w1.setCell ⟨L.l,2,none⟩ v') (AllOwn A st L ld) (AllOwn A st { L with lv:=v' } { ld with lost:=ld.lost++[x] }):=by
 have hv':∀ b,v'.ownBlock=some b→L.lv.ownBlock=some b∨w.heap.size≤b:=hm.own
 have hOL:∀ b,L.lv.ownBlock=some b→LdOwn L ld b:=fun b h1=>.inr (.inr (.inl h1))
 have h1:∀ b,AllOwn A st L ld b→L.lv.ownBlock≠some b→w1.heap[b]? = w.heap[b]? := fun b hb hn=>hm.block b (h.ltAll hb) hn
 have h2o:∀ b,b≠L.l→(w1.setCell ⟨L.l,2,none⟩ v').heap[b]? = w1.heap[b]? := fun b hb=>Below.heap_setCell _ _ _ _ hb
 have h2:∀ b,AllOwn A st L ld b→L.lv.ownBlock≠some b→b≠L.l→(w1.setCell ⟨L.l,2,none⟩ v').heap[b]? = w.heap[b]? := fun b hb hn hl=>(h2o b hl).trans (h1 b hb hn)
 have hA:∀ b,st.Own A b→L.lv.ownBlock≠some b∧b≠L.l:=fun b hb=>⟨fun e=>(h.low b (hOL b e)).2 hb,fun e=>(h.low b (.inl e)).2 hb⟩
 have hvl:v'.ownBlock≠some L.l:=fun hb=>by
  rcases hv' _ hb with h3 | h3
  ·exact h.d2.1 h3
  ·have:=h.lt L.l (.inl rfl)
   omega
 have hsz:(w1.setCell ⟨L.l,2,none⟩ v').heap.size=w1.heap.size:=by simp [World.setCell]
 have hO:∀ b,LdOwn { L with lv:=v' } { ld with lost:=ld.lost++[x] } b→LdOwn L ld b∨v'.ownBlock=some b:=by
  rintro b (hb | hb | hb | hb)
  ·exact .inl (.inl hb)
  ·exact .inl (.inr (.inl hb))
  ·exact .inr hb
  ·exact .inl (.inr (.inr (.inr hb)))
 have hvlt:∀ b,v'.ownBlock=some b→b < w1.heap.size:=fun b hb=>(hr.lt b hb).2
 refine ⟨⟨h.at_.next fun b hb=>h2 b (.inl hb) (hA b hb).1 (hA b hb).2,?_,h.mm.next (h2 _ (.inr (.inr (.inl rfl))) h.d2.2 (Ne.symm h.d1)),fun i p hp=>?_,?_,fun b hb=>?_,fun b hb=>?_,h.d1,⟨hvl,fun hb=>?_⟩,fun i b hi hb=>?_⟩,⟨hm.os,hm.tape,hm.output,by rw [hsz]; exact hm.size,fun b hb hn=>?_,fun b hb=>?_⟩⟩
 ·have h3:=(h1 L.l (.inr (.inl rfl)) h.d2.1).trans h.cell
  show (w1.setCell ⟨L.l,2,none⟩ v').heap[L.l]? = _
  unfold World.setCell
  simp only [Array.getElem?_modify,if_pos,h3,Option.map_some,Option.isSome_none,Bool.false_eq_true,if_false,List.setIfInBounds_toArray,List.set_cons_zero,List.set_cons_succ]
 ·exact RD.mono (fun _ h=>h) (fun b h3=>h2 b (.inr (.inr (.inr (.inr ⟨i,get_lt hp,h3⟩)))) (h.d3 i b (get_lt hp) h3).2.2 (h.d3 i b (get_lt hp) h3).1) _ _ (h.brow i p hp)
 ·have:=own_congr hr fun b hb=>h2o b fun e=>hvl (by rw [← e]; exact hb)
  simpa using this
 ·rcases hO b hb with h3 | h3
  ·exact h.low b h3
  ·rcases hv' b h3 with h4 | h4
   ·exact h.low b (hOL b h4)
   ·exact ⟨Nat.le_trans hlo h4,fun h5=>by have:=h.at_.lt h5; omega⟩
 ·rw [hsz]
  rcases hO b hb with h3 | h3
  ·exact Nat.lt_of_lt_of_le (h.lt b h3) hm.size
  ·exact hvlt b h3
 ·rcases hv' _ hb with h3 | h3
  ·exact h.d2.2 h3
  ·have:=h.lt L.lm (.inr (.inl rfl))
   exact absurd h3 (Nat.not_le.2 this)
 ·obtain ⟨e1,e2,e3⟩:=h.d3 i b hi hb
  refine ⟨e1,e2,fun h3=>?_⟩
  rcases hv' b h3 with h4 | h4
  ·exact e3 h4
  ·have:=h.lt b (.inr (.inr (.inr ⟨i,hi,hb⟩)))
   omega
 ·rw [h2o b fun e=>hn (.inr (.inl e))]
  exact hm.block b hb fun h3=>hn (.inr (hOL b h3))
 ·rcases hb with h3 | h3
  ·exact .inl (.inl h3)
  ·rcases hO b h3 with h4 | h4
   ·exact .inl (.inr h4)
   ·exact (hv' b h4).imp (fun h5=>.inr (hOL b h5)) id
/-- A piece is stored. -/
theorem LdAt.piece (h:LdAt lo w A st L ld) {w1:World} {v:Value} {n:Int} {t:List UInt8} (hb1:Below w.heap.size w w1) (hp:pos (ld.B.map (·.1)) n=none) (hlo:lo≤w.heap.size) (hv:∀ b,Go.Vm.blk v=some b→w.heap.size≤b∧b < w1.heap.size) (hr:RD (fun b=>Go.Vm.blk v=some b) w1 (.sl 1 (t.map cU)) v) :
  let w2:=setO w1 L.lm (putO mkI (ld.B.map (·.1)) L.bv n v)
  LdAt lo w2 A st { L with bv:=upd L.bv ld.B.length v } { ld with B:=ld.B++[(n,t)] }∧Mv w w2 (AllOwn A st L ld) (AllOwn A st { L with bv:=upd L.bv ld.B.length v } { ld with B:=ld.B++[(n,t)] }):=by
 intro w2
 have h1:=h.keep hb1 (Nat.le_refl _)
 have h2o:∀ b,b≠L.lm→w2.heap[b]? = w1.heap[b]? := fun b hb=>setO_other _ _ hb
 have hsz:w2.heap.size=w1.heap.size:=setO_size _ _ _
 have hlm:=h.lt L.lm (.inr (.inl rfl))
 have hlen:(ld.B++[(n,t)]).length=ld.B.length+1:=by simp
 have hget:∀ i m,(ld.B++[(n,t)])[i]? = some m→(i < ld.B.length∧ld.B[i]? = some m)∨(i=ld.B.length∧m=(n,t)):=by
  intro i m hm
  have hl:=get_lt hm
  rw [hlen] at hl
  rcases Nat.lt_or_ge i ld.B.length with hi | hi
  ·rw [List.getElem?_append_left hi] at hm
   exact .inl ⟨hi,hm⟩
  ·have e:i=ld.B.length:=by omega
   subst e
   simp at hm
   exact .inr ⟨rfl,hm.symm⟩
 have hO:∀ b,LdOwn { L with bv:=upd L.bv ld.B.length v } { ld with B:=ld.B++[(n,t)] } b→LdOwn L ld b∨Go.Vm.blk v=some b:=by
  rintro b (hb | hb | hb | ⟨i,hi,hb⟩)
  ·exact .inl (.inl hb)
  ·exact .inl (.inr (.inl hb))
  ·exact .inl (.inr (.inr (.inl hb)))
  ·dsimp only at hi hb
   rw [hlen] at hi
   by_cases e:i=ld.B.length
   ·subst e
    rw [upd_same] at hb
    exact .inr hb
   ·rw [upd_other _ _ e] at hb
    exact .inl (.inr (.inr (.inr ⟨i,by omega,hb⟩)))
 have hA:∀ b,st.Own A b→b≠L.lm:=fun b hb e=>(h.low b (.inr (.inl e))).2 hb
 refine ⟨⟨h1.at_.next fun b hb=>h2o b (hA b hb),(h2o L.l h.d1).trans h1.cell,?_,fun i p hp'=>?_,own_congr h1.lrow fun b hb=>h2o b fun e=>h.d2.2 (by rw [← e]; exact hb),fun b hb=>?_,fun b hb=>?_,h.d1,h.d2,fun i b hi hb=>?_⟩,⟨hb1.os,hb1.tape,hb1.output,by rw [hsz]; exact hb1.size,fun b hb hn=>?_,fun b hb=>?_⟩⟩
 ·have hm:=MapAt.done (mk:=mkI) (ks:=ld.B.map (·.1)) (vs:=L.bv) (Nat.lt_of_lt_of_le hlm hb1.size) n v
  have e1:putK (ld.B.map (·.1)) n=(ld.B++[(n,t)]).map (·.1):=by simp [putK,hp]
  have e2:putI (ld.B.map (·.1)) n=ld.B.length:=by simp [putI,hp]
  rw [e1,e2] at hm
  exact hm
 ·rcases hget i p hp' with ⟨hi,hp'⟩ | ⟨rfl,rfl⟩
  ·show RD (fun b=>Go.Vm.blk (upd L.bv _ v i)=some b) w2 _ (upd L.bv _ v i)
   rw [upd_other _ _ (by omega)]
   exact RD.mono (fun _ h=>h) (fun b h3=>h2o b (h.d3 i b hi h3).2.1) _ _ (h1.brow i p hp')
  ·show RD (fun b=>Go.Vm.blk (upd L.bv _ v _)=some b) w2 _ (upd L.bv _ v _)
   rw [upd_same]
   exact RD.mono (fun _ h=>h) (fun b h3=>h2o b fun e=>by have:=(hv b h3).1; omega) _ _ hr
 ·rcases hO b hb with h3 | h3
  ·exact h.low b h3
  ·exact ⟨Nat.le_trans hlo (hv b h3).1,fun h4=>by have:=h.at_.lt h4; have:=(hv b h3).1; omega⟩
 ·rw [hsz]
  rcases hO b hb with h3 | h3
  ·exact h1.lt b h3
  ·exact (hv b h3).2
 ·dsimp only at hi hb ⊢
  rw [hlen] at hi
  by_cases e:i=ld.B.length
  ·subst e
   rw [upd_same] at hb
   have h3:=(hv b hb).1
   exact ⟨fun e=>by have:=h.lt L.l (.inl rfl); omega,fun e=>by omega,fun e=>by have:=h.lt b (.inr (.inr (.inl e))); omega⟩
  ·rw [upd_other _ _ e] at hb
   exact h.d3 i b (by omega) hb
 ·rw [h2o b fun e=>hn (.inr (.inr (.inl e)))]
  exact hb1.block b hb
 ·rcases hb with h3 | h3
  ·exact .inl (.inl h3)
  ·rcases hO b h3 with h4 | h4
   ·exact .inl (.inr h4)
   ·exact .inr (hv b h4).1
end
theorem bytes_rd (w:World) (t:List UInt8):RD (fun b=>Go.Vm.blk (.slice (some ⟨w.heap.size,0,none⟩) t.length (grownCap w t.length 0 5))=some b) (Lib.bytesWorld w 5 ⟨t.toArray⟩) (.sl 1 (t.map cU)) (.slice (some ⟨w.heap.size,0,none⟩) t.length (grownCap w t.length 0 5)):=by
 simp only [RD]
 refine .inr ⟨w.heap.size,0,_,_,5,_,by rw [List.length_map],by rw [List.length_map]; exact grownCap_ge _ _ _ _,rfl,Lib.bytesWorld_at_new w 5 ⟨t.toArray⟩,REs.of_get _ _ fun j e hj=>?_⟩
 simp only [List.getElem?_map,Option.map_eq_some_iff] at hj
 obtain ⟨b,hb,rfl⟩:=hj
 have hlt:=get_lt hb
 refine ⟨rfl,⟨.int .u8 b.toNat,?_,rfl,rfl⟩,trivial⟩
 have:=Lib.bytesWorld_cell w 5 ⟨t.toArray⟩ j (by simpa [ByteArray.size] using hlt)
 simp only [World.cell?,Lib.bytesWorld_at_new] at this
 have e:t.getD j 0=b:=by rw [List.getD_eq_getElem?_getD,hb]; rfl
 simpa [e,hb] using this
end Go.Vm.ArzG
