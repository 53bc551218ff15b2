/-
  para.Hyphens: the walk of add.
-/
import Derived.Test.YtbnneoaaeidenaaDoorParHc
import Derived.StillTailTactics
namespace Go.Vm.ParG
open Go.Proofs
open Go.RowKit Go.Shelf
theorem mapped_some {σ:Sto} {i:Nat} {nd:Nd} (hn:σ[i]? = some nd) {es:List (Int×Nat)} (hc:nd.ch=some es):mapped σ i=σ:=by simp [mapped,hn,hc]
theorem mapped_get {σ:Sto} {i:Nat} {nd:Nd} (hn:σ[i]? = some nd) (hc:nd.ch=none):(mapped σ i)[i]? = some { nd with ch:=some [] }:=by
  simp only [mapped,hn,Option.bind_some,hc,Option.isSome_none,cond_false,setCh]
  rw [List.getElem?_set_self (List.getElem?_eq_some_iff.1 hn).1]
theorem chOf_some {σ:Sto} {i:Nat} {nd:Nd} (hn:σ[i]? = some nd) {es:List (Int×Nat)} (hc:nd.ch=some es):chOf σ i=es:=by simp [chOf,hn,hc]
theorem findCh_mem {c:Int} {j:Nat}:∀ {es:List (Int×Nat)},findCh es c=some j→(c,j)∈es
  | [],h=>by cases h
  | (k,j') :: r,h=>by
    unfold findCh at h
    split at h
    · rename_i hk
      cases h
      rw [hk]
      exact List.mem_cons_self ..
    · exact List.mem_cons_of_mem _ (findCh_mem h)
theorem step_some {σ σ1:Sto} {i j:Nat} {c:Int} {es:List (Int×Nat)} {lv:Option (List Int)} (hm:mapped σ i=σ1) (hn:σ1[i]? = some ⟨some es,lv⟩) (hf:findCh es c=some j):stepN σ i c=(σ1,j):=by
  unfold stepN
  rw [hm,chOf_some hn rfl,hf]
theorem step_none {σ σ1:Sto} {i:Nat} {c:Int} {es:List (Int×Nat)} {lv:Option (List Int)} (hm:mapped σ i=σ1) (hn:σ1[i]? = some ⟨some es,lv⟩) (hf:findCh es c=none):stepN σ i c=(setCh (σ1++[Nd.mk none none]) i (es++[(c,σ1.length)]),σ1.length):=by
  unfold stepN
  rw [hm,chOf_some hn rfl,hf]
theorem addW_step {σ σ' τ:Sto} {i j n:Nat} {s:List UInt8} {k:Nat} (hk:k < s.length) (h:addW σ i (s.drop k)=(τ,n)) (hs:stepN σ i (s[k]'hk).toNat=(σ',j)):addW σ' j (s.drop (k+1))=(τ,n):=by
  rw [List.drop_eq_getElem_cons hk] at h
  unfold addW at h
  rw [hs] at h
  exact h
theorem byte_at (s:List UInt8) (k:Nat) (h:k < s.length):∃ hh,(⟨s.toArray⟩:ByteArray)[k]'hh=s[k]'h:=by
  refine ⟨by simpa [ByteArray.size] using h,?_⟩
  show (s.toArray)[k]'_=_
  simp
/-- The levels of a pattern are merged into a row,from a place on. -/
def maxInto:List Int→Nat→List Int→List Int
  | l,_,[]=>l
  | l,j,x :: r=>maxInto (l.set j (max (l[j]?.getD 0) x)) (j+1) r
theorem made_ints (n:Nat):madeCells (Value.int .i64 0).cells n=ints (List.replicate n 0):=by
  apply Array.ext'
  apply List.ext_getElem?
  intro j
  simp only [ints,madeCells,Value.cells]
  rcases Nat.lt_or_ge j n with h | h
  · simp [h,Nat.mod_one]
  · simp [h]
theorem mk_ints (n:Nat) (h:n < 4294967296) (w:World):(Instr.makeSlice 24 (.int .i64 (n:Int)) (.int .i64 (n:Int))).run Tryd.prog w=.ok (.slice (some ⟨w.heap.size,0,none⟩) n n) (w.alloc (.cells (ints (List.replicate n 0)) 3)):=by
  obtain ⟨i,hi,hz,hb,hs⟩:∃ i,Tryd.prog.info? 3=some i∧i.zero=some (.int .i64 0)∧i.bytes=8∧i.size=1:=⟨_,rfl,rfl,rfl,rfl⟩
  have hr:=run_make (P:=Tryd.prog) w 24 3 i _ (by kernel_rfl) hi hz .i64 .i64 (n:Int) (n:Int) (by omega) (Int.le_refl _) (by rw [hb]; omega) (by omega)
  rw [hs,Int.toNat_natCast,Nat.mul_one,made_ints] at hr
  exact hr
theorem rowed_some {σ:Sto} {i n:Nat} {nd:Nd} (hn:σ[i]? = some nd) {l:List Int} (hl:nd.lv=some l):rowed σ i n=σ:=by simp [rowed,hn,hl]
theorem rowed_get {σ:Sto} {i n:Nat} {nd:Nd} (hn:σ[i]? = some nd) (hl:nd.lv=none):(rowed σ i n)[i]? = some { nd with lv:=some (List.replicate n 0) }:=by
  simp only [rowed,hn,Option.bind_some,hl,Option.isSome_none,cond_false,setLv]
  rw [List.getElem?_set_self (List.getElem?_eq_some_iff.1 hn).1]
theorem lvOf_some {σ:Sto} {i:Nat} {nd:Nd} (hn:σ[i]? = some nd) {l:List Int} (hl:nd.lv=some l):lvOf σ i=l:=by simp [lvOf,hn,hl]
/-- What add makes of the row of nodes. -/
def addTo (τ:Sto) (n:Nat) (lv:List Int):Sto:=setLv (rowed τ n lv.length) n (maxInto (lvOf (rowed τ n lv.length) n) 0 lv)
theorem setLv_setLv {σ:Sto} {i:Nat} {a b:List Int}:setLv (setLv σ i a) i b=setLv σ i b:=by
  unfold setLv
  cases h:σ[i]? with
  | none=>simp [h]
  | some nd => 
    have hlt:=(List.getElem?_eq_some_iff.1 h).1
    simp [List.getElem?_set_self hlt,List.set_set]
theorem setLv_get {σ:Sto} {i:Nat} {nd:Nd} (hn:σ[i]? = some nd) (l:List Int):(setLv σ i l)[i]? = some { nd with lv:=some l }:=by
  simp only [setLv,hn]
  rw [List.getElem?_set_self (List.getElem?_eq_some_iff.1 hn).1]
theorem maxInto_step {σ σ1:Sto} {i k:Nat} {l l0 lv:List Int} (hk:k < lv.length) (h:setLv σ i (maxInto l k (lv.drop k))=setLv σ1 i (maxInto l0 0 lv)):setLv (setLv σ i (l.set k (max (l[k]?.getD 0) (lv[k]'hk)))) i (maxInto (l.set k (max (l[k]?.getD 0) (lv[k]'hk))) (k+1) (lv.drop (k+1)))=setLv σ1 i (maxInto l0 0 lv):=by
  rw [setLv_setLv,← h,List.drop_eq_getElem_cons hk]
  rfl
theorem setLv_self {σ:Sto} {i:Nat} {ch:Option (List (Int×Nat))} {l:List Int} (hn:σ[i]? = some ⟨ch,some l⟩):setLv σ i l=σ:=by
  simp only [setLv,hn]
  apply List.ext_getElem?
  intro j
  by_cases hj:j=i
  · subst hj
    rw [List.getElem?_set_self (List.getElem?_eq_some_iff.1 hn).1,hn]
  · rw [List.getElem?_set_ne (Ne.symm hj)]
theorem eqm0 (w:World):(binOp .eql 48 (.map none) (.map none)).run Tryd.prog w=.ok (.bool true) w:=by kernel_rfl
theorem eqm1 (b:Nat) (w:World):(binOp .eql 48 (.map (some b)) (.map none)).run Tryd.prog w=.ok (.bool false) w:=by kernel_rfl
theorem eqs0 (w:World):(binOp .eql 24 (.slice none 0 0) (.slice none 0 0)).run Tryd.prog w=.ok (.bool true) w:=by kernel_rfl
theorem eqs1 (a:Addr) (l c:Nat) (w:World):(binOp .eql 24 (.slice (some a) l c) (.slice none 0 0)).run Tryd.prog w=.ok (.bool false) w:=by kernel_rfl
theorem eqp0 (w:World):(binOp .eql 47 (.pointer none) (.pointer none)).run Tryd.prog w=.ok (.bool true) w:=by kernel_rfl
theorem eqp1 (a:Addr) (w:World):(binOp .eql 47 (.pointer (some a)) (.pointer none)).run Tryd.prog w=.ok (.bool false) w:=by kernel_rfl
set_option maxRecDepth 100000 in
set_option maxHeartbeats 4000000 in
theorem add_at {lo:Nat} {w0:World} {B0:Nat→Nat→Nat} {σ0:Sto} (h0:SAt lo w0 B0 σ0) (hlo:lo≤w0.heap.size) (hne:0 < σ0.length) (s:List UInt8) (hs:s.length < 4611686018427387904) {lv:List Int} {lb lof cap:Nat} (hll:lv.length < 4294967296) (hcap:lv.length≤cap) (hlb:lb < w0.heap.size) (hcell:∀ j,j < lv.length→w0.cell? ⟨lb,lof+j,none⟩=some (.int .i64 (lv.getD j 0))) (hno:∀ i k,Used σ0 i k→B0 i k≠lb) {τ:Sto} {n:Nat} (hw:addW σ0 0 s=(τ,n)) (hfit:lv.length≤(lvOf (rowed τ n lv.length) n).length) :
    Calls Tryd.prog 17 #[ptrV B0 0,strOf s,.slice (some ⟨lb,lof,none⟩) lv.length cap] w0 fun e w'=>e=.returned (.tuple #[])∧∃ B',Ext lo w0 B0 σ0 w' B' (addTo τ n lv):=by
  have hmm:=@run_makeMap Tryd.prog
  have q0:=eqm0
  have q1:=eqm1
  have q2:=eqs0
  have q3:=eqs1
  have mixed:Tryd.prog.follows .mixedOrders=true:=by kernel_rfl
  have HC:Aside (∀ j,j < lv.length→w0.cell? ⟨lb,lof+j,none⟩=some (.int .i64 (lv.getD j 0))):=hcell
  have HN:Aside (∀ i k,Used σ0 i k→B0 i k≠lb):=hno
  have HX:Aside (lv.length < 4294967296∧lv.length≤cap∧lb < w0.heap.size):=⟨hll,hcap,hlb⟩
  clear hcell hno hll hcap hlb
  have HFit:Aside (lv.length≤(lvOf (rowed τ n lv.length) n).length):=hfit
  clear hfit
  unfold strOf ptrV
  go_enter Tryd.func17,Tryd.ntmps17
  go_wp2
  go_loopg [0,13] (s.length) (fun g v0 v13 wx=>∃ (k id:Nat) (B:Nat→Nat→Nat) (σ:Sto),g+k=s.length∧v13=.int .i64 (k:Int)∧v0=.pointer (some ⟨B id 0,0,none⟩)∧id < σ.length∧Ext lo w0 B0 σ0 wx B σ∧addW σ id (s.drop k)=(τ,n))
  case atStart=>exact ⟨0,0,B0,σ0,by omega,rfl,rfl,hne,Ext.refl h0,hw⟩
  case round =>
    obtain ⟨k,id,B,σ,hg,rfl,rfl,hid,hE,hA⟩:=hrel
    obtain ⟨nd,hn⟩:∃ nd,σ[id]? = some nd:=⟨_,List.getElem?_eq_getElem hid⟩
    have hlo':=Nat.le_trans hlo hE.below.size
    obtain ⟨c0,c1,c2⟩:=hE.sat.cells hn
    have hlt:=hE.sat.lt (used0 hn)
    by_cases hk:k < s.length
    · have hwk:wrap64 ((k:Int)+1)=((k+1:Nat):Int):=by unfold wrap64; omega
      obtain ⟨hh,hx⟩:=byte_at s k hk
      cases hc:nd.ch
      case' none =>
        rw [hc] at c0
        simp only [chV] at c0
        obtain ⟨B1,E1⟩:=Ext.mkMap hE.sat hn hlo' hc
        go_wp2
        have ha:=E1.agree id 0 (used0 hn)
        have hn1:=mapped_get hn hc
        rw [World.setCell_alloc_past _ _ _ _ hlt] at E1
        replace E1:=hE.trans E1
        rw [← ha] at E1 ⊢
        clear ha
        revert E1 hn1
        generalize World.alloc _ _=w1
        generalize hs1:mapped σ id=σ1
        clear c0 c1 c2 hlt
        intro hn1 E1
        obtain ⟨es1,hc1⟩:∃ es:List (Int×Nat),es=[]:=⟨_,rfl⟩
        rw [← hc1] at hn1
        clear hc1
      case' some es1 =>
        rw [hc] at c0
        simp only [chV] at c0
        go_wp2
        have E1:=hE
        have hn1:σ[id]? = some { nd with ch:=some es1 }:=by rw [hn,← hc]
        rw [← mapped_some hn hc] at E1 hn1
        revert E1 hn1
        generalize hs1:mapped σ id=σ1
        clear c0 c1 c2 hlt
        intro E1 hn1
        obtain ⟨B1,rfl⟩:∃ x,x=B:=⟨_,rfl⟩
        obtain ⟨w1,rfl⟩:∃ x,x=wr:=⟨_,rfl⟩
      all_goals
        obtain ⟨d0,d1,d2⟩:=E1.drew.sat.cells hn1
        have lk:=E1.drew.sat.look hn1 ((s[k]'hk).toNat:Int) true
        simp only [chV,if_true,Option.getD_some] at lk d0
        cases hf:findCh es1 ((s[k]'hk).toNat:Int)
        case' some j =>
          rw [hf] at lk
          simp only [orNil,ptrV,Option.isSome_some] at lk
          have hj:=E1.sat.wf _ _ _ _ hn1 rfl (findCh_mem hf)
          have hA2:=addW_step hk hA (step_some hs1 hn1 hf)
          go_region
          go_wp2
          obtain ⟨g',rfl⟩:∃ g',gk=g'+1:=⟨gk - 1,by omega⟩
          go_roundg g'
          case measure=>omega
          case rel=>exact ⟨k+1,j,B1,σ1,by omega,rfl,rfl,hj,E1.drew,hA2⟩
        case' none =>
          rw [hf] at lk
          simp only [orNil,ptrV,Option.isSome_none] at lk
          have hlo1:=Nat.le_trans hlo E1.below.size
          have hid1:id < σ1.length:=(List.getElem?_eq_some_iff.1 hn1).1
          have hA2:=addW_step hk hA (step_none hs1 hn1 hf)
          obtain ⟨B2,E2,hb2⟩:=Ext.more E1.sat hlo1
          have hn2:(σ1++[Nd.mk none none])[id]? = some { ch:=some es1,lv:=nd.lv }:=by rw [List.getElem?_append_left hid1]; exact hn1
          have ha2:=E2.agree id 0 (used0 hn1)
          go_region
          go_wp2
          rw [← hb2,← ha2]
          clear hb2 ha2
          replace E2:=E1.trans E2
          revert E2
          generalize World.alloc _ _=w2
          intro E2
          have hlo2:lo≤w2.drew.drew.heap.size:=Nat.le_trans hlo E2.below.size
          obtain ⟨w3,mu,E3⟩:=Ext.putMap E2.drew.drew.sat hn2 hlo2 rfl (c:=((s[k]'hk).toNat:Int)) (j:=σ1.length) (by simp) hf
          obtain ⟨f0,f1,f2⟩:=E2.drew.drew.sat.cells hn2
          simp only [chV,ptrV] at mu f0
          go_region
          go_wp2
          obtain ⟨g',rfl⟩:∃ g',gk=g'+1:=⟨gk - 1,by omega⟩
          go_roundg g'
          case measure=>omega
          case rel=>exact ⟨k+1,σ1.length,B2,_,by omega,rfl,rfl,by simp [setCh,hn2],E2.drew.drew.trans E3,hA2⟩
    · have hke:k=s.length:=by omega
      subst hke
      rw [List.drop_length] at hA
      simp only [addW,Prod.mk.injEq] at hA
      obtain ⟨rfl,rfl⟩:=hA
      have hmk:=mk_ints lv.length HX.out.1 wr
      cases hl:nd.lv
      case' none =>
        rw [hl] at c1
        simp only [lvV] at c1
        obtain ⟨B1,E1⟩:=Ext.mkRow hE.sat hn hlo' hl lv.length
        go_wp2
        have ha:=E1.agree id 0 (used0 hn)
        have hn1:=rowed_get (n:=lv.length) hn hl
        rw [World.setCell_alloc_past _ _ _ _ hlt] at E1
        replace E1:=hE.trans E1
        rw [← ha] at E1 ⊢
        clear ha hmk
        revert E1 hn1
        generalize World.alloc _ _=w1
        have hfit:=HFit.out
        clear HFit
        revert hfit
        generalize hs1:rowed σ id lv.length=σ1
        intro hfit
        clear c0 c1 c2 hlt
        intro hn1 E1
        obtain ⟨l,hl1⟩:∃ l:List Int,l=List.replicate lv.length 0:=⟨_,rfl⟩
        rw [← hl1] at hn1
        clear hl1
      case' some l =>
        rw [hl] at c1
        simp only [lvV] at c1
        go_wp2
        have E1:=hE
        have hn1:σ[id]? = some { nd with lv:=some l }:=by rw [hn,← hl]
        rw [← rowed_some (n:=lv.length) hn hl] at E1 hn1
        revert E1 hn1
        have hfit:=HFit.out
        clear HFit
        revert hfit
        generalize hs1:rowed σ id lv.length=σ1
        intro hfit
        clear c0 c1 c2 hlt hmk
        intro E1 hn1
        obtain ⟨B1,rfl⟩:∃ x,x=B:=⟨_,rfl⟩
        obtain ⟨w1,rfl⟩:∃ x,x=wr:=⟨_,rfl⟩
      all_goals
        rw [lvOf_some hn1 rfl] at hfit
        have HF:Aside (lv.length≤l.length):=hfit
        clear hfit
        go_loopg [63] (lv.length) (fun g v63 wx=>∃ (k:Nat) (l':List Int) (σ':Sto),g+k=lv.length∧v63=.int .i64 (k:Int)∧Ext lo w0 B0 σ0 wx B1 σ'∧σ'[id]? = some { nd with lv:=some l' }∧l'.length=l.length∧setLv σ' id (maxInto l' k (lv.drop k))=setLv σ1 id (maxInto l 0 lv))
        case atStart=>exact ⟨0,l,σ1,by omega,rfl,E1,hn1,rfl,rfl⟩
        case round =>
          obtain ⟨k,l',σ',hg,rfl,hE2,hn2,hll,hmx⟩:=hrel
          by_cases hk:k < lv.length
          · have hc0:wr.cell? ⟨lb,lof+k,none⟩=some (.int .i64 (lv.getD k 0)):=(World.cell?_of_block (hE2.keep lb HX.out.2.2 HN.out)).trans (HC.out k hk)
            have hkl:k < l'.length:=by have:=HF.out; omega
            obtain ⟨e0,e1,e2⟩:=hE2.drew.sat.cells hn2
            obtain ⟨r0,r1⟩:=hE2.drew.sat.rowCell hn2 rfl
            replace r0:=r0 k hkl
            replace r1:=r1 k
            simp only [lvV] at e1
            have hzk:(k:Int) < (l'.length:Int):=by omega
            go_wp2
            go_region
            go_wp2
            obtain ⟨g',rfl⟩:∃ g',gk=g'+1:=⟨gk - 1,by omega⟩
            go_roundg g'
            case measure=>omega
            case rel=>exact ⟨k+1,l'.set k (max (l'[k]?.getD 0) (lv[k]'hk)),_,by omega,congrArg (Value.int .i64) (by have:=HX.out.1; unfold wrap64; omega),(hE2.trans (Ext.setRow hE2.sat hn2 (Nat.le_trans hlo hE2.below.size) rfl k _)).drew,setLv_get hn2 _,by rw [List.length_set]; exact hll,maxInto_step hk hmx⟩
          · have hke:k=lv.length:=by omega
            subst hke
            rw [List.drop_length] at hmx
            simp only [maxInto] at hmx
            rw [setLv_self hn2] at hmx
            go_wp2
            go_end0
            refine ⟨rfl,B1,?_⟩
            unfold addTo
            rw [hs1,lvOf_some hn1 rfl,← hmx]
            exact hE2
end Go.Vm.ParG
