/-
  para.Hyphens: lookups and stores in the nodes' maps,and how the nodes turn with them.
-/
import Derived.Test.YtbnneoaaeidenaaDoorParHa
import Derived.Carry
namespace Go.Vm.ParG
open Go.Proofs
open Go.RowKit Go.Shelf
theorem und48:Tryd.prog.underlying 48=some (.map 5 47):=by kernel_rfl
theorem und5:Tryd.prog.underlying 5=some (.int .u8):=by kernel_rfl
theorem zero47 (w:World):(zeroValue 47).run Tryd.prog w=.ok (.pointer none) w:=by kernel_rfl
theorem ckey (empty:Bool) (k:Int) (w:World):(Instr.checkKey empty 10000 5 (.int .u8 k)).run Tryd.prog w=.ok () w:=MapKept.run_checkKey und5 (by simp [MapKept.IsKey]) empty 9999
/-- The child of a byte. -/
def findCh:List (Int×Nat)→Int→Option Nat
  | [],_=>none
  | (k,j) :: r,c=>if k=c then some j else findCh r c
def orNil (B:Nat→Nat→Nat):Option Nat→Value
  | none=>.pointer none
  | some j=>ptrV B j
theorem findNow_ch {B:Nat→Nat→Nat} {c:Int}:∀ (es:List (Int×Nat)) (L:List MapEntry) (i:Nat),L.map (fun e=>(e.key,e.val))=es.map (fun q=>(Value.int .u8 q.1,ptrV B q.2)) →
    ∃ r,Instr.findNow (.int .u8) (.int .u8 c) L i=some r∧r.map (·.2)=(findCh es c).map (ptrV B)
  | [],[],i,_=>⟨none,rfl,rfl⟩
  | [],_ :: _,i,h=>by cases h
  | _ :: _,[],i,h=>by cases h
  | (k,j) :: es,e :: L,i,h=>by
    simp only [List.map_cons,List.cons.injEq,Prod.mk.injEq] at h
    obtain ⟨⟨h1,h2⟩,h3⟩:=h
    by_cases hk:k=c
    · refine ⟨some (i,e.val),?_,?_⟩
      · simp [Instr.findNow,h1,Instr.sameNow,hk]
      · simp [findCh,hk,h2]
    · obtain ⟨r,g1,g2⟩:=findNow_ch (c:=c) es L (i+1) h3
      refine ⟨r,?_,?_⟩
      · have:(c == k)=false:=by simpa using Ne.symm hk
        simp [Instr.findNow,h1,Instr.sameNow,this,g1]
      · simp [findCh,hk,g2]
section
variable {lo:Nat} {w w':World} {B B':Nat→Nat→Nat} {σ:Sto} {i:Nat} {nd nd':Nd}
theorem SAt.look (h:SAt lo w B σ) (hn:σ[i]? = some nd) (c:Int) (ok:Bool):(Instr.lookup 48 (chV B i nd.ch) (.int .u8 c) ok).run Tryd.prog w=.ok (if ok then .tuple #[orNil B (findCh (nd.ch.getD []) c),.bool (findCh (nd.ch.getD []) c).isSome] else orNil B (findCh (nd.ch.getD []) c)) w:=by
  cases hc:nd.ch with
  | none =>
    have hf:Instr.findNow (.int .u8) (.int .u8 c) ([]:List MapEntry) 0=some none:=rfl
    cases ok <;> simp [Instr.lookup,chV,run_underlying und48,ckey,MapKept.run_findKey und5 hf,zero47,findCh,orNil]
  | some es =>
    obtain ⟨ents,clock,h1,h2⟩:=h.map hn hc
    obtain ⟨r,h3,h4⟩:=findNow_ch (c:=c) es _ 0 h2
    have hg:=MapKept.run_getObj_map (P:=Tryd.prog) h1
    cases hf:findCh es c with
    | none =>
      rw [hf] at h4
      have hr:r=none:=by simpa using h4
      subst hr
      cases ok <;> simp [Instr.lookup,chV,run_underlying und48,ckey,hg,MapKept.run_findKey und5 h3,zero47,hf,orNil]
    | some j =>
      rw [hf] at h4
      obtain ⟨⟨q,v⟩,rfl,hv⟩:∃ a,r=some a∧a.2=ptrV B j:=by simpa [Option.map_eq_some_iff] using h4
      dsimp only at hv
      subst hv
      cases ok <;> simp [Instr.lookup,chV,run_underlying und48,ckey,hg,MapKept.run_findKey und5 h3,hf,orNil]
/-- A map is made. -/
theorem SAt.mkMap (h:SAt lo w B σ) (hn:σ[i]? = some nd) (hlo:lo≤w.heap.size) (hc:nd.ch=none):∃ B',(∀ j k,Used σ j k→B' j k=B j k)∧SAt lo ((w.alloc (.map #[] 0)).setCell ⟨B i 0,0,none⟩ (.map (some w.heap.size))) B' (σ.set i { nd with ch:=some [] }) ∧
    ∀ j k,Used (σ.set i { nd with ch:=some [] }) j k→Used σ j k∨B' j k=w.heap.size:=by
  have hlt:i < σ.length:=(List.getElem?_eq_some_iff.1 hn).1
  have hself:(σ.set i { nd with ch:=some [] })[i]? = some { nd with ch:=some [] }:=by rw [List.getElem?_set_self hlt]
  have hnu:¬ Used σ i 1:=fun ⟨m,hm,hk⟩=>by
    rw [hn] at hm
    cases hm
    simp [hc] at hk
  obtain ⟨B',hne,heq⟩:∃ B':Nat→Nat→Nat,(∀ j k,¬ (j=i∧k=1)→B' j k=B j k)∧B' i 1=w.heap.size :=
    ⟨fun j k=>if j=i∧k=1 then w.heap.size else B j k,fun j k hj=>if_neg hj,if_pos ⟨rfl,rfl⟩⟩
  have hB:∀ j k,Used σ j k→B' j k=B j k:=fun j k hu=>hne j k fun ⟨e1,e2⟩=>by
    rw [e1,e2] at hu
    exact hnu hu
  have hb0:=h.lt (used0 hn)
  have hcase:∀ k,Used (σ.set i { nd with ch:=some [] }) i k→k=1∨Used σ i k:=fun k ⟨m,hm,hk⟩=>by
    rw [hself] at hm
    cases hm
    rcases hk with rfl | ⟨rfl,_⟩ | ⟨rfl,hk⟩
    · exact .inr (used0 hn)
    · exact .inl rfl
    · exact .inr ⟨nd,hn,.inr (.inr ⟨rfl,hk⟩)⟩
  refine ⟨B',hB,h.one hn hlo hB (fun k hu=>?_) (fun k k' hu hu' he=>?_) (fun b hb hx=>?_) (fun k hu=>?_) (fun es q he hq=>?_),fun j k hu=>?_⟩
  · rcases hcase k hu with rfl | hu
    · exact .inr (Nat.le_of_eq heq.symm)
    · exact .inl hu
  · rcases hcase k hu with rfl | h1 <;> rcases hcase k' hu' with rfl | h2
    · rfl
    · rw [heq,hB _ _ h2] at he
      have:=h.lt h2
      omega
    · rw [heq,hB _ _ h1] at he
      have:=h.lt h1
      omega
    · rw [hB _ _ h1,hB _ _ h2] at he
      exact (h.inj _ _ _ _ h1 h2 he).2
  · rw [Below.heap_setCell _ _ _ _ (hx 0 (used0 hn)),Below.heap_alloc _ _ _ hb]
  · rcases hcase k hu with rfl | h1
    · refine ⟨_,?_,[],#[],0,rfl,rfl,rfl⟩
      rw [heq,Below.heap_setCell _ _ _ _ (Nat.ne_of_gt hb0)]
      exact (MapKept.heap_alloc w _).1
    · rw [hB _ _ h1]
      obtain ⟨_,o,g1,g2⟩:=h.obj i k nd hn h1
      match k,h1,g1,g2 with
      | 0,h1,g1,g2 =>
        rw [show o=_ from g2] at g1
        refine ⟨.cells #[.map (some w.heap.size),lvV B i nd.lv] 50 (0,0),?_,?_⟩
        · unfold World.setCell
          simp only [Array.getElem?_modify,if_pos,Below.heap_alloc w _ _ hb0,g1,Option.map_some,Option.isSome_none,Bool.false_eq_true,if_false,List.setIfInBounds_toArray,List.set_cons_zero]
        · have e2:lvV B' i nd.lv=lvV B i nd.lv:=by
            cases hc:nd.lv with
            | none=>rfl
            | some es=>simp only [lvV,hB _ _ (used2 hn hc)]
          simp only [ObjOk,chV,heq,e2]
      | 1,h1,_,_=>exact absurd h1 hnu
      | n+2,h1,g1,g2 =>
        have hb2:=h.lt h1
        refine ⟨o,?_,g2⟩
        rw [Below.heap_setCell _ _ _ _ (fun e=>by have:=(h.inj _ _ _ _ h1 (used0 hn) e).2; omega),Below.heap_alloc _ _ _ hb2,g1]
  · cases he
    cases hq
  · by_cases hj:j=i
    · subst hj
      rcases hcase k hu with rfl | hu
      · exact .inr heq
      · exact .inl hu
    · refine .inl ?_
      unfold Used at hu ⊢
      rwa [List.getElem?_set_ne (Ne.symm hj)] at hu
/-- A child is entered. -/
theorem SAt.putMap (h:SAt lo w B σ) (hn:σ[i]? = some nd) (hlo:lo≤w.heap.size) {es:List (Int×Nat)} (hc:nd.ch=some es) {c:Int} {j:Nat} (hj:j < σ.length) (hf:findCh es c=none):∃ w',(Instr.mapUpdate 48 (chV B i nd.ch) (.int .u8 c) (ptrV B j)).run Tryd.prog w=.ok () w' ∧
    SAt lo w' B (σ.set i { nd with ch:=some (es++[(c,j)]) })∧w'.heap.size=w.heap.size∧(w'.os=w.os∧w'.tape=w.tape∧w'.output=w.output)∧(∀ b,b≠B i 1→w'.heap[b]? = w.heap[b]?)∧∀ a k,Used (σ.set i { nd with ch:=some (es++[(c,j)]) }) a k↔Used σ a k:=by
  have hlt:i < σ.length:=(List.getElem?_eq_some_iff.1 hn).1
  obtain ⟨ents,clock,h1,h2⟩:=h.map hn hc
  obtain ⟨r,h3,h4⟩:=findNow_ch (c:=c) es _ 0 h2
  rw [hf] at h4
  have hr:r=none:=by simpa using h4
  subst hr
  have hself:(σ.set i { nd with ch:=some (es++[(c,j)]) })[i]? = some { nd with ch:=some (es++[(c,j)]) }:=by rw [List.getElem?_set_self hlt]
  have hU:∀ a k,Used (σ.set i { nd with ch:=some (es++[(c,j)]) }) a k↔Used σ a k:=fun a k=>by
    by_cases ha:a=i
    · subst ha
      unfold Used
      rw [hself,hn]
      simp [hc]
    · unfold Used
      rw [List.getElem?_set_ne (Ne.symm ha)]
  have hhs:=MapKept.heap_set (o':=Obj.map (ents.push { key:=.int .u8 c,val:=ptrV B j,born:=clock }) (clock+1)) h1
  refine ⟨{ w with heap:=w.heap.setIfInBounds (B i 1) (.map (ents.push { key:=.int .u8 c,val:=ptrV B j,born:=clock }) (clock+1)) },?_,?_,by simp,⟨rfl,rfl,rfl⟩,fun b hb=>hhs.2 b hb,hU⟩
  · simp [Instr.mapUpdate,hc,chV,run_underlying und48,MapKept.run_getObj_map h1,ckey,MapKept.run_findKey und5 h3,MapKept.run_setObj_map _ h1]
  · refine h.one hn hlo (fun _ _ _=>rfl) (fun k hu=>.inl ((hU i k).1 hu)) (fun k k' hu hu' he=>(h.inj _ _ _ _ ((hU i k).1 hu) ((hU i k').1 hu') he).2) (fun b hb hx=>hhs.2 b (hx 1 (used1 hn hc))) (fun k hu=>?_) (fun es' q he hq=>?_)
    · have hu1:=(hU i k).1 hu
      obtain ⟨_,o,g1,g2⟩:=h.obj i k nd hn hu1
      match k,hu1,g1,g2 with
      | 0,hu1,g1,g2 =>
        refine ⟨o,?_,?_⟩
        · rw [← g1]
          exact hhs.2 _ fun e=>by have:=(h.inj _ _ _ _ hu1 (used1 hn hc) e).2; omega
        · rw [show o=_ from g2,hc]
          rfl
      | 1,hu1,g1,g2 =>
        refine ⟨_,hhs.1,_,_,_,rfl,rfl,?_⟩
        simp only [Array.toList_push,List.map_append,List.map_cons,List.map_nil,h2]
      | n+2,hu1,g1,g2 =>
        refine ⟨o,?_,g2⟩
        rw [← g1]
        exact hhs.2 _ fun e=>by have:=(h.inj _ _ _ _ hu1 (used1 hn hc) e).2; omega
    · cases he
      rcases List.mem_append.1 hq with hq | hq
      · exact h.wf i nd es q hn hc hq
      · simp at hq
        subst hq
        exact hj
/-- A row of levels is made. -/
theorem SAt.mkRow (h:SAt lo w B σ) (hn:σ[i]? = some nd) (hlo:lo≤w.heap.size) (hl:nd.lv=none) (n:Nat):∃ B',(∀ j k,Used σ j k→B' j k=B j k)∧SAt lo ((w.alloc (.cells (ints (List.replicate n 0)) 3)).setCell ⟨B i 0,1,none⟩ (.slice (some ⟨w.heap.size,0,none⟩) n n)) B' (σ.set i { nd with lv:=some (List.replicate n 0) }) ∧
    ∀ j k,Used (σ.set i { nd with lv:=some (List.replicate n 0) }) j k→Used σ j k∨B' j k=w.heap.size:=by
  have hlt:i < σ.length:=(List.getElem?_eq_some_iff.1 hn).1
  have hself:(σ.set i { nd with lv:=some (List.replicate n 0) })[i]? = some { nd with lv:=some (List.replicate n 0) }:=by rw [List.getElem?_set_self hlt]
  have hnu:¬ Used σ i 2:=fun ⟨m,hm,hk⟩=>by
    rw [hn] at hm
    cases hm
    simp [hl] at hk
  obtain ⟨B',hne,heq⟩:∃ B':Nat→Nat→Nat,(∀ j k,¬ (j=i∧k=2)→B' j k=B j k)∧B' i 2=w.heap.size :=
    ⟨fun j k=>if j=i∧k=2 then w.heap.size else B j k,fun j k hj=>if_neg hj,if_pos ⟨rfl,rfl⟩⟩
  have hB:∀ j k,Used σ j k→B' j k=B j k:=fun j k hu=>hne j k fun ⟨e1,e2⟩=>by
    rw [e1,e2] at hu
    exact hnu hu
  have hb0:=h.lt (used0 hn)
  have hcase:∀ k,Used (σ.set i { nd with lv:=some (List.replicate n 0) }) i k→k=2∨(k≠2∧Used σ i k):=fun k ⟨m,hm,hk⟩=>by
    rw [hself] at hm
    cases hm
    rcases hk with rfl | ⟨rfl,hk⟩ | ⟨rfl,_⟩
    · exact .inr ⟨by decide,used0 hn⟩
    · exact .inr ⟨by decide,nd,hn,.inr (.inl ⟨rfl,hk⟩)⟩
    · exact .inl rfl
  refine ⟨B',hB,h.one hn hlo hB (fun k hu=>?_) (fun k k' hu hu' he=>?_) (fun b hb hx=>?_) (fun k hu=>?_) (fun es q he hq=>h.wf i nd es q hn he hq),fun j k hu=>?_⟩
  · rcases hcase k hu with rfl | ⟨_,hu⟩
    · exact .inr (Nat.le_of_eq heq.symm)
    · exact .inl hu
  · rcases hcase k hu with rfl | ⟨_,h1⟩ <;> rcases hcase k' hu' with rfl | ⟨_,h2⟩
    · rfl
    · rw [heq,hB _ _ h2] at he
      have:=h.lt h2
      omega
    · rw [heq,hB _ _ h1] at he
      have:=h.lt h1
      omega
    · rw [hB _ _ h1,hB _ _ h2] at he
      exact (h.inj _ _ _ _ h1 h2 he).2
  · rw [Below.heap_setCell _ _ _ _ (hx 0 (used0 hn)),Below.heap_alloc _ _ _ hb]
  · rcases hcase k hu with rfl | ⟨hk2,h1⟩
    · refine ⟨_,?_,List.replicate n 0,rfl,rfl⟩
      rw [heq,Below.heap_setCell _ _ _ _ (Nat.ne_of_gt hb0)]
      exact (MapKept.heap_alloc w _).1
    · rw [hB _ _ h1]
      obtain ⟨_,o,g1,g2⟩:=h.obj i k nd hn h1
      match k,h1,g1,g2,hk2 with
      | 0,h1,g1,g2,_ =>
        rw [show o=_ from g2] at g1
        refine ⟨.cells #[chV B i nd.ch,.slice (some ⟨w.heap.size,0,none⟩) n n] 50 (0,0),?_,?_⟩
        · unfold World.setCell
          simp only [Array.getElem?_modify,if_pos,Below.heap_alloc w _ _ hb0,g1,Option.map_some,Option.isSome_none,Bool.false_eq_true,if_false,List.setIfInBounds_toArray,List.set_cons_zero,List.set_cons_succ]
        · have e2:chV B' i nd.ch=chV B i nd.ch:=by
            cases hc:nd.ch with
            | none=>rfl
            | some es=>simp only [chV,hB _ _ (used1 hn hc)]
          simp only [ObjOk,lvV,heq,e2,List.length_replicate]
      | 1,h1,g1,g2,_ =>
        have hb2:=h.lt h1
        obtain ⟨es,ents,clock,q1,q2,q3⟩:=g2
        refine ⟨o,?_,es,ents,clock,q1,q2,q3.trans (List.map_congr_left fun q hq=>?_)⟩
        · rw [Below.heap_setCell _ _ _ _ (fun e=>by have:=(h.inj _ _ _ _ h1 (used0 hn) e).2; omega),Below.heap_alloc _ _ _ hb2,g1]
        · simp only [ptrV,hB _ _ (used0' (h.wf i nd es q hn q1 hq))]
      | n'+2,h1,_,_,hk2 =>
        obtain ⟨m,hm,hk⟩:=h1
        omega
  · by_cases hj:j=i
    · subst hj
      rcases hcase k hu with rfl | ⟨_,hu⟩
      · exact .inr heq
      · exact .inl hu
    · refine .inl ?_
      unfold Used at hu ⊢
      rwa [List.getElem?_set_ne (Ne.symm hj)] at hu
/-- A level is written. -/
theorem SAt.setRow (h:SAt lo w B σ) (hn:σ[i]? = some nd) (hlo:lo≤w.heap.size) {l:List Int} (hl:nd.lv=some l) (p:Nat) (v:Int):SAt lo (w.setCell ⟨B i 2,p,none⟩ (.int .i64 v)) B (σ.set i { nd with lv:=some (l.set p v) }) ∧
    ∀ a k,Used (σ.set i { nd with lv:=some (l.set p v) }) a k↔Used σ a k:=by
  have hlt:i < σ.length:=(List.getElem?_eq_some_iff.1 hn).1
  have hself:(σ.set i { nd with lv:=some (l.set p v) })[i]? = some { nd with lv:=some (l.set p v) }:=by rw [List.getElem?_set_self hlt]
  have hU:∀ a k,Used (σ.set i { nd with lv:=some (l.set p v) }) a k↔Used σ a k:=fun a k=>by
    by_cases ha:a=i
    · subst ha
      unfold Used
      rw [hself,hn]
      simp [hl]
    · unfold Used
      rw [List.getElem?_set_ne (Ne.symm ha)]
  refine ⟨h.one hn hlo (fun _ _ _=>rfl) (fun k hu=>.inl ((hU i k).1 hu)) (fun k k' hu hu' he=>(h.inj _ _ _ _ ((hU i k).1 hu) ((hU i k').1 hu') he).2) (fun b hb hx=>Below.heap_setCell _ _ _ _ (hx 2 (used2 hn hl))) (fun k hu=>?_) (fun es q he hq=>h.wf i nd es q hn he hq),hU⟩
  have hu1:=(hU i k).1 hu
  obtain ⟨_,o,g1,g2⟩:=h.obj i k nd hn hu1
  by_cases hk:k=2
  · subst hk
    obtain ⟨l',q1,q2⟩:=g2
    rw [hl] at q1
    cases q1
    refine ⟨.cells (ints (l.set p v)) 3 (0,0),?_,_,rfl,rfl⟩
    unfold World.setCell
    simp only [Array.getElem?_modify,if_pos,g1,q2,Option.map_some,Option.isSome_none,Bool.false_eq_true,if_false,ints,List.setIfInBounds_toArray,List.map_set]
  · refine ⟨o,?_,?_⟩
    · rw [Below.heap_setCell _ _ _ _ (fun e=>hk (h.inj _ _ _ _ hu1 (used2 hn hl) e).2),g1]
    · match k,g2,hk with
      | 0,g2,_ =>
        rw [show o=_ from g2,hl]
        simp only [ObjOk,lvV,List.length_set]
      | 1,g2,_=>exact g2
      | n+2,_,hk =>
        obtain ⟨m,hm,hk'⟩:=hu1
        omega
end
end Go.Vm.ParG
