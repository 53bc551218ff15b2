/-
  para.Hyphens: the tree of patterns as a row of nodes,and where it lies in a world.
-/
import Derived.Test.YtbnneoaaeidenaaDoorParD
import Derived.Test.YtbnneoaaeidenaaDoorVmD
import Derived.Deep.RegionHeld3
import Derived.Deep.LoopGhost
import Derived.TacticsInMore
import Derived.Maps.Own
namespace Go.Vm.ParG
open Go.Proofs
open Go.RowKit Go.Shelf
/-- A node: its children by bytes (none: no map yet),its levels (none: no row yet). -/
structure Nd where
  ch:Option (List (Int×Nat))
  lv:Option (List Int)
abbrev Sto:=List Nd
def Used (σ:Sto) (i k:Nat):Prop:=∃ nd,σ[i]? = some nd∧(k=0∨(k=1∧nd.ch.isSome=true)∨(k=2∧nd.lv.isSome=true))
def ptrV (B:Nat→Nat→Nat) (j:Nat):Value:=.pointer (some ⟨B j 0,0,none⟩)
def chV (B:Nat→Nat→Nat) (i:Nat):Option (List (Int×Nat))→Value
  | none=>.map none
  | some _=>.map (some (B i 1))
def lvV (B:Nat→Nat→Nat) (i:Nat):Option (List Int)→Value
  | none=>.slice none 0 0
  | some l=>.slice (some ⟨B i 2,0,none⟩) l.length l.length
def ints (l:List Int):Array Value:=(l.map fun z=>Value.int .i64 z).toArray
def ObjOk (B:Nat→Nat→Nat) (nd:Nd) (i:Nat):Nat→Obj→Prop
  | 0,o=>o=.cells #[chV B i nd.ch,lvV B i nd.lv] 50 (0,0)
  | 1,o=>∃ es ents clock,nd.ch=some es∧o=.map ents clock∧ents.toList.map (fun e=>(e.key,e.val))=es.map fun q=>(Value.int .u8 q.1,ptrV B q.2)
  | _,o=>∃ l,nd.lv=some l∧o=.cells (ints l) 3 (0,0)
/-- The nodes lie in the world,each in blocks of its own,all from lo on. -/
structure SAt (lo:Nat) (w:World) (B:Nat→Nat→Nat) (σ:Sto):Prop where
  inj:∀ i k i' k',Used σ i k→Used σ i' k'→B i k=B i' k'→i=i'∧k=k'
  obj:∀ (i k:Nat) (nd:Nd),σ[i]? = some nd→Used σ i k→lo≤B i k∧∃ o,w.heap[B i k]? = some o∧ObjOk B nd i k o
  wf:∀ (i:Nat) (nd:Nd) (es:List (Int×Nat)) (q:Int×Nat),σ[i]? = some nd→nd.ch=some es→q∈es→q.2 < σ.length
section
variable {lo:Nat} {w w':World} {B B':Nat→Nat→Nat} {σ:Sto} {i:Nat} {nd nd':Nd}
theorem used0 (h:σ[i]? = some nd):Used σ i 0:=⟨nd,h,.inl rfl⟩
theorem used0' (h:i < σ.length):Used σ i 0:=used0 (List.getElem?_eq_getElem h)
theorem used1 (h:σ[i]? = some nd) {es:List (Int×Nat)} (he:nd.ch=some es):Used σ i 1:=⟨nd,h,.inr (.inl ⟨rfl,by rw [he]; rfl⟩)⟩
theorem used2 (h:σ[i]? = some nd) {l:List Int} (he:nd.lv=some l):Used σ i 2:=⟨nd,h,.inr (.inr ⟨rfl,by rw [he]; rfl⟩)⟩
theorem SAt.lt (h:SAt lo w B σ) {k:Nat} (hu:Used σ i k):B i k < w.heap.size:=by
  obtain ⟨nd,hn,_⟩:=hu
  obtain ⟨_,o,ho,_⟩:=h.obj i k nd hn ⟨nd,hn,by assumption⟩
  exact heap_lt ho
theorem SAt.ge (h:SAt lo w B σ) {k:Nat} (hu:Used σ i k):lo≤B i k:=by
  obtain ⟨nd,hn,_⟩:=hu
  exact (h.obj i k nd hn ⟨nd,hn,by assumption⟩).1
/-- The used blocks are as they were. -/
theorem SAt.keep (h:SAt lo w B σ) (hk:∀ i k,Used σ i k→w'.heap[B i k]? = w.heap[B i k]?):SAt lo w' B σ :=
  ⟨h.inj,fun i k nd hn hu=>by
    obtain ⟨h1,o,h2,h3⟩:=h.obj i k nd hn hu
    exact ⟨h1,o,(hk i k hu).trans h2,h3⟩,h.wf⟩
theorem SAt.drew (h:SAt lo w B σ):SAt lo w.drew B σ:=h.keep fun _ _ _=>rfl
theorem SAt.alloc (h:SAt lo w B σ) (o:Obj):SAt lo (w.alloc o) B σ:=h.keep fun _ _ hu=>Below.heap_alloc w o _ (h.lt hu)
theorem SAt.other (h:SAt lo w B σ) {b j:Nat} {u:Value} (hb:∀ i k,Used σ i k→B i k≠b):SAt lo (w.setCell ⟨b,j,none⟩ u) B σ :=
  h.keep fun i k hu=>Below.heap_setCell w _ u _ (hb i k hu)
theorem SAt.below (h:SAt lo w B σ) (hb:Below w.heap.size w w'):SAt lo w' B σ:=h.keep fun _ _ hu=>hb.block _ (h.lt hu)
theorem SAt.node (h:SAt lo w B σ) (hn:σ[i]? = some nd):w.heap[B i 0]? = some (.cells #[chV B i nd.ch,lvV B i nd.lv] 50 (0,0)):=by
  obtain ⟨_,o,h2,h3⟩:=h.obj i 0 nd hn (used0 hn)
  rw [h2,h3]
theorem SAt.cells (h:SAt lo w B σ) (hn:σ[i]? = some nd):w.cell? ⟨B i 0,0,none⟩=some (chV B i nd.ch)∧w.cell? ⟨B i 0,1,none⟩=some (lvV B i nd.lv)∧(∀ j,w.frozen? ⟨B i 0,j,none⟩=false):=by
  have:=h.node hn
  exact ⟨by simp [World.cell?,this],by simp [World.cell?,this],fun j=>by simp [World.frozen?,this]⟩
theorem SAt.map (h:SAt lo w B σ) (hn:σ[i]? = some nd) {es:List (Int×Nat)} (he:nd.ch=some es):∃ ents clock,w.heap[B i 1]? = some (.map ents clock)∧ents.toList.map (fun e=>(e.key,e.val))=es.map fun q=>(Value.int .u8 q.1,ptrV B q.2):=by
  obtain ⟨_,o,h2,es',ents,clock,h4,h5,h6⟩:=h.obj i 1 nd hn (used1 hn he)
  rw [he] at h4
  cases h4
  exact ⟨ents,clock,by rw [h2,h5],h6⟩
theorem SAt.row (h:SAt lo w B σ) (hn:σ[i]? = some nd) {l:List Int} (he:nd.lv=some l):w.heap[B i 2]? = some (.cells (ints l) 3 (0,0)):=by
  obtain ⟨_,o,h2,l',h4,h5⟩:=h.obj i 2 nd hn (used2 hn he)
  rw [he] at h4
  cases h4
  rw [h2,h5]
theorem SAt.rowCell (h:SAt lo w B σ) (hn:σ[i]? = some nd) {l:List Int} (he:nd.lv=some l):(∀ j,j < l.length→w.cell? ⟨B i 2,j,none⟩=some (.int .i64 (l.getD j 0)))∧(∀ j,w.frozen? ⟨B i 2,j,none⟩=false):=by
  have:=h.row hn he
  refine ⟨fun j hj=>?_,fun j=>by simp [World.frozen?,this]⟩
  simp only [World.cell?,this,Option.isSome_none,Bool.false_eq_true,if_false,ints,List.getElem?_toArray,List.getElem?_map,List.getD_eq_getElem?_getD,List.getElem?_eq_getElem hj,Option.map_some,Option.getD_some]
/-- One node turns. -/
theorem SAt.one (h:SAt lo w B σ) (hi:σ[i]? = some nd) (hlo:lo≤w.heap.size) (hB:∀ j k,Used σ j k→B' j k=B j k)
    (hnew:∀ k,Used (σ.set i nd') i k→Used σ i k∨w.heap.size≤B' i k) (hinj:∀ k k',Used (σ.set i nd') i k→Used (σ.set i nd') i k'→B' i k=B' i k'→k=k')
    (hkeep:∀ b,b < w.heap.size→(∀ k,Used σ i k→b≠B i k)→w'.heap[b]? = w.heap[b]?)
    (hobj:∀ k,Used (σ.set i nd') i k→∃ o,w'.heap[B' i k]? = some o∧ObjOk B' nd' i k o) (hwf:∀ es q,nd'.ch=some es→q∈es→q.2 < σ.length):SAt lo w' B' (σ.set i nd'):=by
  have hlt:i < σ.length:=(List.getElem?_eq_some_iff.1 hi).1
  have hget:∀ j,j≠i→(σ.set i nd')[j]? = σ[j]? := fun j hj=>List.getElem?_set_ne (Ne.symm hj)
  have hself:(σ.set i nd')[i]? = some nd':=by rw [List.getElem?_set_self hlt]
  have hoth:∀ j k,j≠i→(Used (σ.set i nd') j k↔Used σ j k):=fun j k hj=>by unfold Used; rw [hget j hj]
  have hbk:∀ j k,j≠i→Used σ j k→w'.heap[B j k]? = w.heap[B j k]? := fun j k hj hu=>hkeep _ (h.lt hu) fun k' hu' he=>hj (h.inj j k i k' hu hu' he).1
  refine ⟨fun j k j' k' hu hu' he=>?_,fun j k m hm hu=>?_,fun j m es q hm he hq=>?_⟩
  · by_cases hj:j=i
    · subst hj
      by_cases hj':j'=j
      · subst hj'
        exact ⟨rfl,hinj k k' hu hu' he⟩
      · have hu'':=(hoth j' k' hj').1 hu'
        rcases hnew k hu with h1 | h1
        · rw [hB _ _ h1,hB _ _ hu''] at he
          exact absurd (h.inj _ _ _ _ h1 hu'' he).1.symm hj'
        · rw [he,hB _ _ hu''] at h1
          exact absurd (h.lt hu'') (Nat.not_lt.2 h1)
    · have hu1:=(hoth j k hj).1 hu
      by_cases hj':j'=i
      · subst hj'
        rcases hnew k' hu' with h1 | h1
        · rw [hB _ _ h1,hB _ _ hu1] at he
          exact absurd (h.inj _ _ _ _ hu1 h1 he).1 hj
        · rw [← he,hB _ _ hu1] at h1
          exact absurd (h.lt hu1) (Nat.not_lt.2 h1)
      · have hu2:=(hoth j' k' hj').1 hu'
        rw [hB _ _ hu1,hB _ _ hu2] at he
        exact h.inj _ _ _ _ hu1 hu2 he
  · by_cases hj:j=i
    · subst hj
      rw [hself] at hm
      cases hm
      refine ⟨?_,hobj k hu⟩
      rcases hnew k hu with h1 | h1
      · rw [hB _ _ h1]
        exact h.ge h1
      · exact Nat.le_trans hlo h1
    · have hu1:=(hoth j k hj).1 hu
      rw [hget j hj] at hm
      obtain ⟨h1,o,h2,h3⟩:=h.obj j k m hm hu1
      rw [hB _ _ hu1]
      refine ⟨h1,o,(hbk j k hj hu1).trans h2,?_⟩
      match k,hu1,h3 with
      | 0,_,h3 =>
        show o=_
        rw [show o=_ from h3]
        have e1:chV B' j m.ch=chV B j m.ch:=by
          cases hc:m.ch with
          | none=>rfl
          | some es=>simp only [chV,hB _ _ (used1 hm hc)]
        have e2:lvV B' j m.lv=lvV B j m.lv:=by
          cases hc:m.lv with
          | none=>rfl
          | some es=>simp only [lvV,hB _ _ (used2 hm hc)]
        rw [e1,e2]
      | 1,_,h3 =>
        obtain ⟨es,ents,clock,h4,h5,h6⟩:=h3
        refine ⟨es,ents,clock,h4,h5,h6.trans (List.map_congr_left fun q hq=>?_)⟩
        simp only [ptrV,hB _ _ (used0' (h.wf j m es q hm h4 hq))]
      | _+2,_,h3=>exact h3
  · rw [List.length_set]
    by_cases hj:j=i
    · subst hj
      rw [hself] at hm
      cases hm
      exact hwf es q he hq
    · rw [hget j hj] at hm
      exact h.wf j m es q hm he hq
/-- A node more. -/
theorem SAt.more (h:SAt lo w B σ) (hlo:lo≤w.heap.size):∃ B',(∀ j k,Used σ j k→B' j k=B j k)∧B' σ.length 0=w.heap.size∧SAt lo (w.alloc (.cells #[.map none,.slice none 0 0] 50)) B' (σ++[⟨none,none⟩]) ∧
    ∀ j k,Used (σ++[⟨none,none⟩]) j k→Used σ j k∨B' j k=w.heap.size:=by
  have hnu:∀ k,¬ Used σ σ.length k:=fun k ⟨nd,hn,_⟩=>by simp at hn
  obtain ⟨B',hne,heq⟩:∃ B':Nat→Nat→Nat,(∀ j k,j≠σ.length→B' j k=B j k)∧∀ k,B' σ.length k=w.heap.size :=
    ⟨fun j k=>if j=σ.length then w.heap.size else B j k,fun j k hj=>if_neg hj,fun k=>if_pos rfl⟩
  have hB:∀ j k,Used σ j k→B' j k=B j k:=fun j k hu=>hne j k fun e=>by
    rw [e] at hu
    exact hnu k hu
  have hcase:∀ j k,Used (σ++[⟨none,none⟩]) j k→(Used σ j k∧j≠σ.length)∨(j=σ.length∧k=0):=fun j k ⟨nd,hn,hk⟩=>by
    rcases Nat.lt_trichotomy j σ.length with hj | hj | hj
    · rw [List.getElem?_append_left hj] at hn
      exact .inl ⟨⟨nd,hn,hk⟩,Nat.ne_of_lt hj⟩
    · subst hj
      simp at hn
      subst hn
      simp at hk
      exact .inr ⟨rfl,hk⟩
    · rw [List.getElem?_eq_none (by simp; omega)] at hn
      cases hn
  refine ⟨B',hB,heq 0,⟨fun j k j' k' hu hu' he=>?_,fun j k m hm hu=>?_,fun j m es q hm he hq=>?_⟩,fun j k hu=>?_⟩
  · rcases hcase j k hu with ⟨h1,n1⟩ | ⟨rfl,rfl⟩ <;> rcases hcase j' k' hu' with ⟨h2,n2⟩ | ⟨rfl,rfl⟩
    · rw [hB _ _ h1,hB _ _ h2] at he
      exact h.inj _ _ _ _ h1 h2 he
    · rw [hB _ _ h1,heq] at he
      have:=h.lt h1
      omega
    · rw [hB _ _ h2,heq] at he
      have:=h.lt h2
      omega
    · exact ⟨rfl,rfl⟩
  · rcases hcase j k hu with ⟨h1,n1⟩ | ⟨rfl,rfl⟩
    · have hj:j < σ.length:=by
        obtain ⟨x,hx,_⟩:=h1
        exact (List.getElem?_eq_some_iff.1 hx).1
      rw [List.getElem?_append_left hj] at hm
      obtain ⟨g1,o,g2,g3⟩:=h.obj j k m hm h1
      rw [hB _ _ h1]
      refine ⟨g1,o,(Below.heap_alloc w _ _ (h.lt h1)).trans g2,?_⟩
      match k,h1,g3 with
      | 0,_,g3 =>
        show o=_
        rw [show o=_ from g3]
        have e1:chV B' j m.ch=chV B j m.ch:=by
          cases hc:m.ch with
          | none=>rfl
          | some es=>simp only [chV,hne _ _ n1]
        have e2:lvV B' j m.lv=lvV B j m.lv:=by
          cases hc:m.lv with
          | none=>rfl
          | some es=>simp only [lvV,hne _ _ n1]
        rw [e1,e2]
      | 1,_,g3 =>
        obtain ⟨es,ents,clock,h4,h5,h6⟩:=g3
        refine ⟨es,ents,clock,h4,h5,h6.trans (List.map_congr_left fun q hq=>?_)⟩
        simp only [ptrV,hne _ _ (Nat.ne_of_lt (h.wf j m es q hm h4 hq))]
      | _+2,_,g3=>exact g3
    · simp at hm
      subst hm
      rw [heq]
      refine ⟨hlo,_,?_,rfl⟩
      show (w.heap.push _)[w.heap.size]? = _
      rw [Array.getElem?_push,if_pos rfl]
      rfl
  · rw [List.length_append]
    rcases Nat.lt_or_ge j σ.length with hj | hj
    · rw [List.getElem?_append_left hj] at hm
      exact Nat.lt_succ_of_lt (h.wf j m es q hm he hq)
    · rw [List.getElem?_append_right hj] at hm
      rcases Nat.eq_zero_or_pos (j - σ.length) with h0 | h0
      · rw [h0] at hm
        simp at hm
        subst hm
        cases he
      · rw [List.getElem?_eq_none (by simp; omega)] at hm
        cases hm
  · rcases hcase j k hu with ⟨h1,n1⟩ | ⟨rfl,rfl⟩
    · exact .inl h1
    · exact .inr (heq 0)
end
end Go.Vm.ParG
