/-
  para.Hyphens: how the row of nodes grows.
-/
import Derived.Test.YtbnneoaaeidenaaDoorParHb
namespace Go.Vm.ParG
open Go.Proofs
open Go.RowKit Go.Shelf
/-- From nodes in a world to nodes in a later one. -/
structure Ext (lo:Nat) (w0:World) (B0:Nat→Nat→Nat) (σ0:Sto) (w:World) (B:Nat→Nat→Nat) (σ:Sto):Prop where
  sat:SAt lo w B σ
  below:Below lo w0 w
  mono:∀ j k,Used σ0 j k→Used σ j k
  agree:∀ j k,Used σ0 j k→B j k=B0 j k
  fresh:∀ j k,Used σ j k→Used σ0 j k∨w0.heap.size≤B j k
  keep:∀ b,b < w0.heap.size→(∀ j k,Used σ0 j k→B0 j k≠b)→w.heap[b]? = w0.heap[b]?
section
variable {lo:Nat} {w0 w w':World} {B0 B B':Nat→Nat→Nat} {σ0 σ σ':Sto} {i:Nat} {nd nd':Nd}
theorem Ext.refl (h:SAt lo w B σ):Ext lo w B σ w B σ:=⟨h,Below.refl _ _,fun _ _ h=>h,fun _ _ _=>rfl,fun _ _ h=>.inl h,fun _ _ _=>rfl⟩
theorem Ext.trans (h:Ext lo w0 B0 σ0 w B σ) (k:Ext lo w B σ w' B' σ'):Ext lo w0 B0 σ0 w' B' σ':=by
  refine ⟨k.sat,h.below.trans k.below,fun j q hu=>k.mono j q (h.mono j q hu),fun j q hu=>(k.agree j q (h.mono j q hu)).trans (h.agree j q hu),fun j q hu=>?_,fun b hb hn=>?_⟩
  · rcases k.fresh j q hu with h1 | h1
    · rw [k.agree j q h1]
      exact h.fresh j q h1
    · exact .inr (Nat.le_trans h.below.size h1)
  · rw [k.keep b (Nat.lt_of_lt_of_le hb h.below.size) fun j q hu=>?_]
    · exact h.keep b hb hn
    · rcases h.fresh j q hu with h1 | h1
      · rw [h.agree j q h1]
        exact hn j q h1
      · omega
theorem Ext.drew (h:Ext lo w0 B0 σ0 w B σ):Ext lo w0 B0 σ0 w.drew B σ:=⟨h.sat.drew,h.below.drew,h.mono,h.agree,h.fresh,h.keep⟩
/-- The children of a node. -/
def chOf (σ:Sto) (i:Nat):List (Int×Nat):=((σ[i]?).bind (·.ch)).getD []
def setCh (σ:Sto) (i:Nat) (es:List (Int×Nat)):Sto :=
  match σ[i]? with
  | some nd=>σ.set i { nd with ch:=some es }
  | none=>σ
def mapped (σ:Sto) (i:Nat):Sto:=bif ((σ[i]?).bind (·.ch)).isSome then σ else setCh σ i []
/-- The step to the child of a byte: the row,and the child. -/
def stepN (σ:Sto) (i:Nat) (c:Int):Sto×Nat :=
  match findCh (chOf (mapped σ i) i) c with
  | some j=>(mapped σ i,j)
  | none=>(setCh (mapped σ i++[Nd.mk none none]) i (chOf (mapped σ i) i++[(c,(mapped σ i).length)]),(mapped σ i).length)
def addW:Sto→Nat→List UInt8→Sto×Nat
  | σ,i,[]=>(σ,i)
  | σ,i,c :: r=>addW (stepN σ i c.toNat).1 (stepN σ i c.toNat).2 r
theorem Ext.mkMap (h:SAt lo w B σ) (hn:σ[i]? = some nd) (hlo:lo≤w.heap.size) (hc:nd.ch=none):∃ B',Ext lo w B σ ((w.alloc (.map #[] 0)).setCell ⟨B i 0,0,none⟩ (.map (some w.heap.size))) B' (mapped σ i):=by
  obtain ⟨B',h1,h2,h3⟩:=h.mkMap hn hlo hc
  have hm:mapped σ i=σ.set i { nd with ch:=some [] }:=by simp [mapped,hn,hc,setCh]
  rw [hm]
  have hlt:i < σ.length:=(List.getElem?_eq_some_iff.1 hn).1
  refine ⟨B',h2,((Below.refl _ _).alloc hlo _).setCell (h.ge (used0 hn)) _,fun j k ⟨m,hm',hk⟩=>?_,h1,fun j k hu=>(h3 j k hu).imp id (fun e=>Nat.le_of_eq e.symm),fun b hb hn'=>?_⟩
  · by_cases hj:j=i
    · subst hj
      rw [hn] at hm'
      cases hm'
      refine ⟨_,List.getElem?_set_self hlt,?_⟩
      rcases hk with rfl | ⟨rfl,hk⟩ | hk
      · exact .inl rfl
      · exact .inr (.inl ⟨rfl,rfl⟩)
      · exact .inr (.inr hk)
    · exact ⟨m,by rw [List.getElem?_set_ne (Ne.symm hj)]; exact hm',hk⟩
  · rw [Below.heap_setCell _ _ _ _ (Ne.symm (hn' i 0 (used0 hn))),Below.heap_alloc _ _ _ hb]
theorem Ext.more (h:SAt lo w B σ) (hlo:lo≤w.heap.size):∃ B',Ext lo w B σ (w.alloc (.cells #[.map none,.slice none 0 0] 50)) B' (σ++[Nd.mk none none])∧B' σ.length 0=w.heap.size:=by
  obtain ⟨B',h1,h2,h3,h4⟩:=h.more hlo
  refine ⟨B',⟨h3,(Below.refl _ _).alloc hlo _,fun j k ⟨m,hm,hk⟩=>?_,h1,fun j k hu=>(h4 j k hu).imp id (fun e=>Nat.le_of_eq e.symm),fun b hb _=>Below.heap_alloc _ _ _ hb⟩,h2⟩
  have hj:=(List.getElem?_eq_some_iff.1 hm).1
  exact ⟨m,by rw [List.getElem?_append_left hj]; exact hm,hk⟩
theorem Ext.putMap (h:SAt lo w B σ) (hn:σ[i]? = some nd) (hlo:lo≤w.heap.size) {es:List (Int×Nat)} (hc:nd.ch=some es) {c:Int} {j:Nat} (hj:j < σ.length) (hf:findCh es c=none):∃ w',(Instr.mapUpdate 48 (.map (some (B i 1))) (.int .u8 c) (ptrV B j)).run Tryd.prog w=.ok () w' ∧
    Ext lo w B σ w' B (setCh σ i (es++[(c,j)])):=by
  obtain ⟨w',h1,h2,h3,⟨h4,h5,h6⟩,h7,h8⟩:=h.putMap hn hlo hc hj hf
  rw [hc] at h1
  have hm:setCh σ i (es++[(c,j)])=σ.set i { nd with ch:=some (es++[(c,j)]) }:=by simp [setCh,hn]
  rw [hm]
  refine ⟨w',h1,h2,⟨h4,h5,h6,Nat.le_of_eq h3.symm,fun k hk=>h7 k fun e=>?_⟩,fun j k hu=>(h8 j k).2 hu,fun _ _ _=>rfl,fun j k hu=>.inl ((h8 j k).1 hu),fun b hb hn'=>h7 b (Ne.symm (hn' i 1 (used1 hn hc)))⟩
  have:=h.ge (used1 hn hc)
  omega
/-- The row of levels of a node. -/
def lvOf (σ:Sto) (i:Nat):List Int:=((σ[i]?).bind (·.lv)).getD []
def setLv (σ:Sto) (i:Nat) (l:List Int):Sto :=
  match σ[i]? with
  | some nd=>σ.set i { nd with lv:=some l }
  | none=>σ
def rowed (σ:Sto) (i n:Nat):Sto:=bif ((σ[i]?).bind (·.lv)).isSome then σ else setLv σ i (List.replicate n 0)
theorem Ext.mkRow (h:SAt lo w B σ) (hn:σ[i]? = some nd) (hlo:lo≤w.heap.size) (hl:nd.lv=none) (n:Nat):∃ B',Ext lo w B σ ((w.alloc (.cells (ints (List.replicate n 0)) 3)).setCell ⟨B i 0,1,none⟩ (.slice (some ⟨w.heap.size,0,none⟩) n n)) B' (rowed σ i n):=by
  obtain ⟨B',h1,h2,h3⟩:=h.mkRow hn hlo hl n
  have hm:rowed σ i n=σ.set i { nd with lv:=some (List.replicate n 0) }:=by simp [rowed,hn,hl,setLv]
  rw [hm]
  have hlt:i < σ.length:=(List.getElem?_eq_some_iff.1 hn).1
  refine ⟨B',h2,((Below.refl _ _).alloc hlo _).setCell (h.ge (used0 hn)) _,fun j k ⟨m,hm',hk⟩=>?_,h1,fun j k hu=>(h3 j k hu).imp id (fun e=>Nat.le_of_eq e.symm),fun b hb hn'=>?_⟩
  · by_cases hj:j=i
    · subst hj
      rw [hn] at hm'
      cases hm'
      refine ⟨_,List.getElem?_set_self hlt,?_⟩
      rcases hk with rfl | hk | ⟨rfl,hk⟩
      · exact .inl rfl
      · exact .inr (.inl hk)
      · exact .inr (.inr ⟨rfl,rfl⟩)
    · exact ⟨m,by rw [List.getElem?_set_ne (Ne.symm hj)]; exact hm',hk⟩
  · rw [Below.heap_setCell _ _ _ _ (Ne.symm (hn' i 0 (used0 hn))),Below.heap_alloc _ _ _ hb]
theorem Ext.setRow (h:SAt lo w B σ) (hn:σ[i]? = some nd) (hlo:lo≤w.heap.size) {l:List Int} (hl:nd.lv=some l) (p:Nat) (v:Int):Ext lo w B σ (w.setCell ⟨B i 2,p,none⟩ (.int .i64 v)) B (setLv σ i (l.set p v)):=by
  obtain ⟨h1,h2⟩:=h.setRow hn hlo hl p v
  have hm:setLv σ i (l.set p v)=σ.set i { nd with lv:=some (l.set p v) }:=by simp [setLv,hn]
  rw [hm]
  exact ⟨h1,(Below.refl _ _).setCell (h.ge (used2 hn hl)) _,fun j k hu=>(h2 j k).2 hu,fun _ _ _=>rfl,fun j k hu=>.inl ((h2 j k).1 hu),fun b hb hn'=>Below.heap_setCell _ _ _ _ (Ne.symm (hn' i 2 (used2 hn hl)))⟩
end
end Go.Vm.ParG
