/-
  archive.Load: an archive in a world.
-/
import Derived.Test.YtflaiaeofndgmaaGreatDoorArMa
import Derived.Test.YtflaiaeofndgmaaGreatDoorProg
import Derived.Test.YtflaiaeofndgmaaGreatDoorVmA
set_option linter.unusedSectionVars false
namespace Go.Vm.ArzG
open Go.Proofs
open Go.RowKit Go.Vm.ArzM
/-- What an archive holds: pieces at their checksums,names with their pieces,and the names in order. -/
structure Ar where
 P:List (Int×List (List UInt8))
 N:List (List UInt8×List Int×List Int×Int)
 O:List (List UInt8)
/-- Where it lies. -/
structure ArV where
 a:Nat
 bp:Nat
 bn:Nat
 ov:Value
 pv:Nat→Value
 kv:Nat→Value
 av:Nat→Value
inductive Sl where
 | a | p | n | o
 | pc (i:Nat) | ky (i:Nat) | ix (i:Nat)
def ArV.blk (A:ArV) (st:Ar):Sl→Option Nat
 | .a=>some A.a
 | .p=>some A.bp
 | .n=>some A.bn
 | .o=>Go.Vm.blk A.ov
 | .pc i=>if i < st.P.length then (A.pv i).ownBlock else none
 | .ky i=>if i < st.N.length then Go.Vm.blk (A.kv i) else none
 | .ix i=>if i < st.N.length then Go.Vm.blk (A.av i) else none
def mkU (k:Int):Value:=.int .u32 k
def mkI (k:Int):Value:=.int .i64 k
def Ar.entV (A:ArV) (st:Ar) (i:Nat):Value:=.agg #[A.kv i,A.av i,.int .i64 ((st.N[i]?.map fun x=>x.2.2.2).getD 0)]
def Ar.Own (A:ArV) (st:Ar) (b:Nat):Prop:=∃ s,A.blk st s=some b
structure ArAt (lo:Nat) (w:World) (A:ArV) (st:Ar):Prop where
 cell:w.heap[A.a]? = some (.cells #[.map (some A.bp),.map (some A.bn),A.ov] 65 (0,0))
 pm:MapAt mkU w A.bp (st.P.map (·.1)) A.pv
 nm:MapAt strOf w A.bn (st.N.map (·.1)) (st.entV A)
 ord:OwnAt (fun _=>False) w A.ov 9 1 (st.O.map cS)
 prow:∀ i p,st.P[i]? = some p→w.ownsRow lo 9 1 (A.pv i) p.2.length (p.2.map strOf)
 krow:∀ i n,st.N[i]? = some n→OwnAt (fun _=>False) w (A.kv i) 56 1 (n.2.1.map (cI .u32))
 arow:∀ i n,st.N[i]? = some n→OwnAt (fun _=>False) w (A.av i) 3 1 (n.2.2.1.map (cI .i64))
 from_:∀ b,st.Own A b→lo≤b
 inj:∀ s t b,A.blk st s=some b→A.blk st t=some b→s=t
theorem mtP:MT Tryz.prog 62 56 24 (.int .u32) mkU (.slice none 0 0) :=
 ⟨by kernel_rfl,by kernel_rfl,fun a=>by simp [MapKept.IsKey,mkU],fun a b h=>by simpa [mkU] using h,fun w=>by kernel_rfl⟩
theorem str_inj {a b:List UInt8} (h:strOf a=strOf b):a=b:=by
 simp only [strOf,Value.string.injEq,ByteArray.mk.injEq] at h
 simpa using congrArg Array.toList h
def zeroE:Value:=.agg #[.slice none 0 0,.slice none 0 0,.int .i64 0]
theorem mtN:MT Tryz.prog 63 9 69 .string strOf zeroE :=
 ⟨by kernel_rfl,by kernel_rfl,fun a=>by simp [MapKept.IsKey,strOf],fun a b h=>str_inj h,fun w=>by kernel_rfl⟩
section
variable {lo:Nat} {w w':World} {A:ArV} {st:Ar}
theorem ArAt.lt (h:ArAt lo w A st) {b:Nat} (hb:st.Own A b):b < w.heap.size:=by
 obtain ⟨s,hs⟩:=hb
 cases s with
 | a=>cases hs; exact heap_lt h.cell
 | p=>cases hs; exact heap_lt h.pm
 | n=>cases hs; exact heap_lt h.nm
 | o=>exact h.ord.lt hs
 | pc i =>
  simp only [ArV.blk] at hs
  split at hs
  ·rename_i hi
   exact ((h.prow i _ (List.getElem?_eq_getElem hi)).lt b hs).2
  ·cases hs
 | ky i =>
  simp only [ArV.blk] at hs
  split at hs
  ·rename_i hi
   exact (h.krow i _ (List.getElem?_eq_getElem hi)).lt hs
  ·cases hs
 | ix i =>
  simp only [ArV.blk] at hs
  split at hs
  ·rename_i hi
   exact (h.arow i _ (List.getElem?_eq_getElem hi)).lt hs
  ·cases hs
theorem own_pc {i:Nat} (hi:i < st.P.length) {b:Nat} (h:(A.pv i).ownBlock=some b):A.blk st (.pc i)=some b:=by simp [ArV.blk,hi,h]
theorem own_ky {i:Nat} (hi:i < st.N.length) {b:Nat} (h:Go.Vm.blk (A.kv i)=some b):A.blk st (.ky i)=some b:=by simp [ArV.blk,hi,h]
theorem own_ix {i:Nat} (hi:i < st.N.length) {b:Nat} (h:Go.Vm.blk (A.av i)=some b):A.blk st (.ix i)=some b:=by simp [ArV.blk,hi,h]
theorem get_lt {β:Type} {l:List β} {i:Nat} {x:β} (h:l[i]? = some x):i < l.length:=(List.getElem?_eq_some_iff.1 h).1
theorem own_turn {e:TypeId} {v:Value} {es:List (List Dat)} (h:OwnAt (fun _=>False) w v e 1 es) (hb:∀ b,Go.Vm.blk v=some b→w'.heap[b]? = w.heap[b]?):OwnAt (fun _=>False) w' v e 1 es:=h.turn (fun _ h=>h) (fun _ h=>h.elim) hb
theorem ArAt.next (h:ArAt lo w A st) (hb:∀ b,st.Own A b→w'.heap[b]? = w.heap[b]?):ArAt lo w' A st :=
 ⟨(hb _ ⟨.a,rfl⟩).trans h.cell,h.pm.next (hb _ ⟨.p,rfl⟩),h.nm.next (hb _ ⟨.n,rfl⟩),own_turn h.ord fun b hq=>hb b ⟨.o,hq⟩,
  fun i p hp=>own_congr (h.prow i p hp) fun b hq=>hb b ⟨.pc i,own_pc (get_lt hp) hq⟩,fun i p hp=>own_turn (h.krow i p hp) fun b hq=>hb b ⟨.ky i,own_ky (get_lt hp) hq⟩,fun i p hp=>own_turn (h.arow i p hp) fun b hq=>hb b ⟨.ix i,own_ix (get_lt hp) hq⟩,h.from_,h.inj⟩
theorem ArAt.keep (h:ArAt lo w A st) {B:Nat} (hb:Below B w w') (hB:w.heap.size≤B):ArAt lo w' A st:=h.next fun b hq=>hb.block b (Nat.lt_of_lt_of_le (h.lt hq) hB)
theorem ArAt.cells (h:ArAt lo w A st):w.cell? ⟨A.a,0,none⟩=some (.map (some A.bp))∧w.cell? ⟨A.a,1,none⟩=some (.map (some A.bn))∧w.cell? ⟨A.a,2,none⟩=some A.ov∧∀ i,w.frozen? ⟨A.a,i,none⟩=false:=by
 refine ⟨?_,?_,?_,fun i=>?_⟩ <;> simp [World.cell?,World.frozen?,h.cell]
/-- The row at a checksum. -/
def Ar.rowAt (st:Ar) (k:Int):List (List UInt8):=((pos (st.P.map (·.1)) k).bind fun i=>(st.P[i]?).map (·.2)).getD []
theorem ArAt.row (h:ArAt lo w A st) (k:Int):w.ownsRow lo 9 1 (valAt (.slice none 0 0) (st.P.map (·.1)) A.pv k) (st.rowAt k).length ((st.rowAt k).map strOf):=by
 unfold valAt Ar.rowAt
 cases hp:pos (st.P.map (·.1)) k with
 | none=>exact World.ownsRow_nil _ _ _ _
 | some i =>
  have hi:i < st.P.length:=by simpa using pos_lt hp
  simpa [List.getElem?_eq_getElem hi] using h.prow i _ (List.getElem?_eq_getElem hi)
theorem ArAt.rowBlk (h:ArAt lo w A st) (k:Int) {b:Nat} (hb:(valAt (.slice none 0 0) (st.P.map (·.1)) A.pv k).ownBlock=some b):∃ i,pos (st.P.map (·.1)) k=some i∧A.blk st (.pc i)=some b:=by
 unfold valAt at hb
 cases hp:pos (st.P.map (·.1)) k with
 | none=>rw [hp] at hb; cases hb
 | some i =>
  rw [hp] at hb
  exact ⟨i,rfl,own_pc (by simpa using pos_lt hp) hb⟩
/-- The row at a checksum is set. -/
def Ar.putRow (st:Ar) (k:Int) (l:List (List UInt8)):Ar :=
 { st with P:=match pos (st.P.map (·.1)) k with
  | some i=>st.P.set i (k,l)
  | none=>st.P++[(k,l)] }
theorem putRow_keys (st:Ar) (k:Int) (l:List (List UInt8)):(st.putRow k l).P.map (·.1)=putK (st.P.map (·.1)) k:=by
 unfold Ar.putRow putK
 cases hp:pos (st.P.map (·.1)) k with
 | none=>simp
 | some i =>
  have:=pos_get hp
  simp only [List.map_set]
  apply List.ext_getElem?
  intro j
  rw [List.getElem?_set]
  split
  ·rename_i h
   subst h
   rw [if_pos (pos_lt hp),this]
  ·rfl
theorem putRow_get {st:Ar} {k:Int} {l:List (List UInt8)} {i:Nat} {p:Int×List (List UInt8)} (h:(st.putRow k l).P[i]? = some p):(i=putI (st.P.map (·.1)) k∧p=(k,l))∨(i≠putI (st.P.map (·.1)) k∧st.P[i]? = some p):=by
 unfold Ar.putRow at h
 unfold putI
 cases hp:pos (st.P.map (·.1)) k with
 | none =>
  rw [hp] at h
  simp only [List.length_map,Option.getD_none]
  rcases Nat.lt_or_ge i st.P.length with hi | hi
  ·rw [List.getElem?_append_left hi] at h
   exact .inr ⟨by omega,h⟩
  ·have:=get_lt h
   simp at this
   have e:i=st.P.length:=by omega
   subst e
   simp at h
   exact .inl ⟨rfl,h.symm⟩
 | some j =>
  rw [hp] at h
  simp only [Option.getD_some]
  rw [List.getElem?_set] at h
  split at h
  ·rename_i h0
   split at h
   ·exact .inl ⟨h0.symm,by simpa using h.symm⟩
   ·cases h
  ·rename_i h0
   exact .inr ⟨fun e=>h0 e.symm,h⟩
theorem putRow_len (st:Ar) (k:Int) (l:List (List UInt8)):putI (st.P.map (·.1)) k < (st.putRow k l).P.length∧st.P.length≤(st.putRow k l).P.length:=by
 have h1:=putI_lt (st.P.map (·.1)) k
 have h2:=(putK_len (st.P.map (·.1)) k).2
 rw [← putRow_keys st k l,List.length_map] at h1 h2
 rw [List.length_map] at h2
 exact ⟨h1,h2⟩
/-- One row behind the other: what the new one's block is. -/
theorem ArAt.putRow (h:ArAt lo w A st) {w1:World} {k:Int} {l:List (List UInt8)} {v':Value} (hm:Mv w w1 (fun b=>(valAt (.slice none 0 0) (st.P.map (·.1)) A.pv k).ownBlock=some b) (fun b=>v'.ownBlock=some b)) (hlo:lo≤w.heap.size)
  (hr:w1.ownsRow lo 9 1 v' l.length (l.map strOf)):let A':={ A with pv:=upd A.pv (putI (st.P.map (·.1)) k) v' }
  let w2:=setO w1 A.bp (putO mkU (st.P.map (·.1)) A.pv k v')
  ArAt lo w2 A' (st.putRow k l)∧Mv w w2 (st.Own A) ((st.putRow k l).Own A'):=by
 intro A' w2
 have hne:∀ s b,A.blk st s=some b→(∀ i,pos (st.P.map (·.1)) k=some i→s≠.pc i)→w1.heap[b]? = w.heap[b]? := fun s b hs hi =>
  hm.block b (h.lt ⟨s,hs⟩) fun hv=>by
   obtain ⟨i,h1,h2⟩:=h.rowBlk k hv
   exact hi i h1 (h.inj _ _ _ hs h2)
 have h2o:∀ b,b≠A.bp→w2.heap[b]? = w1.heap[b]? := fun b hb=>setO_other _ _ hb
 have hne2:∀ s b,A.blk st s=some b→(∀ i,pos (st.P.map (·.1)) k=some i→s≠.pc i)→s≠.p→w2.heap[b]? = w.heap[b]? := fun s b hs hi hp =>
  (h2o b fun e=>hp (h.inj _ _ _ hs (by rw [e]; rfl))).trans (hne s b hs hi)
 have hbp1:A.bp < w1.heap.size:=Nat.lt_of_lt_of_le (heap_lt h.pm) hm.size
 -- blocks
 have hblk:∀ s b,A'.blk (st.putRow k l) s=some b→(A.blk st s=some b∧∀ i,i=putI (st.P.map (·.1)) k→s≠.pc i)∨(s=.pc (putI (st.P.map (·.1)) k)∧v'.ownBlock=some b):=by
  intro s b hs
  cases s with
  | pc i =>
   simp only [ArV.blk] at hs
   split at hs
   ·rename_i hi
    by_cases hi':i=putI (st.P.map (·.1)) k
    ·subst hi'
     exact .inr ⟨rfl,by rw [← hs]; exact congrArg _ (upd_same ..).symm⟩
    ·have hg:=putRow_get (List.getElem?_eq_getElem hi)
     rcases hg with ⟨h1,_⟩ | ⟨_,h1⟩
     ·exact absurd h1 hi'
     ·exact .inl ⟨own_pc (get_lt h1) (by rw [← hs]; exact congrArg _ (upd_other _ _ hi').symm),fun j hj he=>hi' (by cases he; exact hj)⟩
   ·cases hs
  | a=>exact .inl ⟨hs,fun _ _ he=>by cases he⟩
  | p=>exact .inl ⟨hs,fun _ _ he=>by cases he⟩
  | n=>exact .inl ⟨hs,fun _ _ he=>by cases he⟩
  | o=>exact .inl ⟨hs,fun _ _ he=>by cases he⟩
  | ky i=>exact .inl ⟨hs,fun _ _ he=>by cases he⟩
  | ix i=>exact .inl ⟨hs,fun _ _ he=>by cases he⟩
 have hv'lt:∀ b,v'.ownBlock=some b→(∃ i,pos (st.P.map (·.1)) k=some i∧A.blk st (.pc i)=some b)∨w.heap.size≤b:=fun b hb =>
  (hm.own b hb).imp (h.rowBlk k) id
 have hvbp:v'.ownBlock≠some A.bp:=fun hb=>by
  rcases hv'lt _ hb with ⟨i,_,h1⟩ | h1
  ·cases h.inj _ _ _ h1 (show A.blk st .p=some A.bp from rfl)
  ·have:=heap_lt h.pm
   omega
 have hinj1:∀ s b,A.blk st s=some b→(∀ i,i=putI (st.P.map (·.1)) k→s≠.pc i)→v'.ownBlock≠some b:=fun s b hs hn hv=>by
  rcases hv'lt b hv with ⟨i,h0,h1⟩ | h1
  ·exact hn i (by unfold putI; rw [h0]; rfl) (h.inj _ _ _ hs h1)
  ·have:=h.lt ⟨s,hs⟩
   omega
 refine ⟨⟨?_,?_,?_,?_,fun i p hp=>?_,fun i n hn=>?_,fun i n hn=>?_,fun b hb=>?_,fun s t b hs ht=>?_⟩,⟨hm.os,hm.tape,hm.output,by rw [setO_size]; exact hm.size,fun b hb hO=>?_,fun b hb=>?_⟩⟩
 ·exact (hne2 .a _ rfl (fun _ _ e=>by cases e) (fun e=>by cases e)).trans h.cell
 ·have:=MapAt.done (mk:=mkU) (ks:=st.P.map (·.1)) (vs:=A.pv) hbp1 k v'
  rw [← putRow_keys st k l] at this
  exact this
 ·exact h.nm.next (hne2 .n _ rfl (fun _ _ e=>by cases e) (fun e=>by cases e))
 ·exact own_turn h.ord fun b hb=>hne2 .o b hb (fun _ _ e=>by cases e) (fun e=>by cases e)
 ·rcases putRow_get hp with ⟨rfl,rfl⟩ | ⟨h1,h2⟩
  ·show w2.ownsRow lo 9 1 (upd A.pv _ v' _) _ _
   rw [upd_same]
   exact own_congr hr fun b hb=>h2o b fun e=>hvbp (by rw [← e]; exact hb)
  ·show w2.ownsRow lo 9 1 (upd A.pv _ v' _) _ _
   rw [upd_other _ _ h1]
   exact own_congr (h.prow i p h2) fun b hb=>hne2 (.pc i) b (own_pc (get_lt h2) hb) (fun j hj e=>h1 (by cases e; unfold putI; rw [hj]; rfl)) (fun e=>by cases e)
 ·exact own_turn (h.krow i n hn) fun b hb=>hne2 (.ky i) b (own_ky (get_lt hn) hb) (fun _ _ e=>by cases e) (fun e=>by cases e)
 ·exact own_turn (h.arow i n hn) fun b hb=>hne2 (.ix i) b (own_ix (get_lt hn) hb) (fun _ _ e=>by cases e) (fun e=>by cases e)
 ·obtain ⟨s,hs⟩:=hb
  rcases hblk s b hs with ⟨h1,_⟩ | ⟨_,h1⟩
  ·exact h.from_ b ⟨s,h1⟩
  ·rcases hv'lt b h1 with ⟨i,_,h2⟩ | h2
   ·exact h.from_ b ⟨_,h2⟩
   ·omega
 ·rcases hblk s b hs with ⟨h1,k1⟩ | ⟨k1,h1⟩ <;> rcases hblk t b ht with ⟨h2,k2⟩ | ⟨k2,h2⟩
  ·exact h.inj _ _ _ h1 h2
  ·exact absurd h2 (hinj1 s b h1 k1)
  ·exact absurd h1 (hinj1 t b h2 k2)
  ·rw [k1,k2]
 ·have hbp:b≠A.bp:=fun e=>hO ⟨.p,by rw [e]; rfl⟩
  rw [h2o b hbp]
  exact hm.block b hb fun hv=>hO (by
   obtain ⟨i,_,h1⟩:=h.rowBlk k hv
   exact ⟨_,h1⟩)
 ·obtain ⟨s,hs⟩:=hb
  rcases hblk s b hs with ⟨h1,_⟩ | ⟨_,h1⟩
  ·exact .inl ⟨s,h1⟩
  ·exact (hv'lt b h1).imp (fun ⟨i,_,h2⟩=>⟨_,h2⟩) id
/-- An entry that is being made: its rows,and what is its own. -/
structure EntAt (w:World) (X:Nat) (kv av:Value) (ks ia:List Int) (n:Int):Prop where
 cell:∃ E,w.heap[X]? = some (.cells #[kv,av,.int .i64 n] E (0,0))
 ok:OwnAt (fun _=>False) w kv 56 1 (ks.map (cI .u32))
 oa:OwnAt (fun _=>False) w av 3 1 (ia.map (cI .i64))
 d1:Go.Vm.blk kv≠some X
 d2:Go.Vm.blk av≠some X
 d3:∀ b,Go.Vm.blk kv=some b→Go.Vm.blk av≠some b
def EO (X:Nat) (kv av:Value) (b:Nat):Prop:=b=X∨Go.Vm.blk kv=some b∨Go.Vm.blk av=some b
section
variable {X:Nat} {kv av:Value} {ks ia:List Int} {n:Int}
theorem EntAt.lt (h:EntAt w X kv av ks ia n) {b:Nat} (hb:EO X kv av b):b < w.heap.size:=by
 rcases hb with rfl | hb | hb
 ·obtain ⟨E,h1⟩:=h.cell
  exact heap_lt h1
 ·exact h.ok.lt hb
 ·exact h.oa.lt hb
theorem EntAt.next (h:EntAt w X kv av ks ia n) (hb:∀ b,EO X kv av b→w'.heap[b]? = w.heap[b]?):EntAt w' X kv av ks ia n :=
 ⟨h.cell.imp fun E h1=>(hb X (.inl rfl)).trans h1,own_turn h.ok fun b h1=>hb b (.inr (.inl h1)),own_turn h.oa fun b h1=>hb b (.inr (.inr h1)),h.d1,h.d2,h.d3⟩
theorem EntAt.cells (h:EntAt w X kv av ks ia n):w.cell? ⟨X,0,none⟩=some kv∧w.cell? ⟨X,1,none⟩=some av∧w.cell? ⟨X,2,none⟩=some (.int .i64 n):=by
 obtain ⟨E,h1⟩:=h.cell
 refine ⟨?_,?_,?_⟩ <;> simp [World.cell?,h1]
/-- A name is stored. -/
def Ar.putN (st:Ar) (name:List UInt8) (ks ia:List Int) (n:Int):Ar:={ st with N:=st.N++[(name,ks,ia,n)] }
theorem ArAt.putName (h:ArAt lo w A st) (x:EntAt w X kv av ks ia n) {name:List UInt8} (hp:pos (st.N.map (·.1)) name=none) (hd:∀ b,EO X kv av b→¬ st.Own A b∧lo≤b) :
  let A':={ A with kv:=upd A.kv st.N.length kv,av:=upd A.av st.N.length av }
  let w2:=setO w A.bn (putO strOf (st.N.map (·.1)) (st.entV A) name (.agg #[kv,av,.int .i64 n]))
  ArAt lo w2 A' (st.putN name ks ia n)∧Mv w w2 (fun b=>st.Own A b∨EO X kv av b) ((st.putN name ks ia n).Own A'):=by
 intro A' w2
 have h2o:∀ b,b≠A.bn→w2.heap[b]? = w.heap[b]? := fun b hb=>setO_other _ _ hb
 have hne:∀ s b,A.blk st s=some b→s≠.n→w2.heap[b]? = w.heap[b]? := fun s b hs hn=>h2o b fun e=>hn (h.inj _ _ _ hs (by rw [e]; rfl))
 have hxn:∀ b,EO X kv av b→w2.heap[b]? = w.heap[b]? := fun b hb=>h2o b fun e=>(hd b hb).1 ⟨.n,by rw [e]; rfl⟩
 have hlen:(st.putN name ks ia n).N.length=st.N.length+1:=by simp [Ar.putN]
 have hget:∀ i m,(st.putN name ks ia n).N[i]? = some m→(i < st.N.length∧st.N[i]? = some m)∨(i=st.N.length∧m=(name,ks,ia,n)):=by
  intro i m hm
  have hl:=get_lt hm
  rw [hlen] at hl
  simp only [Ar.putN] at hm
  rcases Nat.lt_or_ge i st.N.length with hi | hi
  ·rw [List.getElem?_append_left hi] at hm
   exact .inl ⟨hi,hm⟩
  ·have e:i=st.N.length:=by omega
   subst e
   simp at hm
   exact .inr ⟨rfl,hm.symm⟩
 have hblk:∀ s b,A'.blk (st.putN name ks ia n) s=some b→A.blk st s=some b∨(s=.ky st.N.length∧Go.Vm.blk kv=some b)∨(s=.ix st.N.length∧Go.Vm.blk av=some b):=by
  intro s b hs
  cases s with
  | ky i =>
   simp only [ArV.blk,hlen] at hs
   split at hs
   ·by_cases hi:i=st.N.length
    ·subst hi
     exact .inr (.inl ⟨rfl,by rw [← hs]; exact congrArg _ (upd_same ..).symm⟩)
    ·exact .inl (own_ky (by omega) (by rw [← hs]; exact congrArg _ (upd_other _ _ hi).symm))
   ·cases hs
  | ix i =>
   simp only [ArV.blk,hlen] at hs
   split at hs
   ·by_cases hi:i=st.N.length
    ·subst hi
     exact .inr (.inr ⟨rfl,by rw [← hs]; exact congrArg _ (upd_same ..).symm⟩)
    ·exact .inl (own_ix (by omega) (by rw [← hs]; exact congrArg _ (upd_other _ _ hi).symm))
   ·cases hs
  | a=>exact .inl hs
  | p=>exact .inl hs
  | n=>exact .inl hs
  | o=>exact .inl hs
  | pc i=>exact .inl hs
 have hE:∀ b,Go.Vm.blk kv=some b∨Go.Vm.blk av=some b→EO X kv av b:=fun b hb=>.inr hb
 refine ⟨⟨?_,?_,?_,?_,fun i p hp=>?_,fun i m hm=>?_,fun i m hm=>?_,fun b hb=>?_,fun s t b hs ht=>?_⟩,⟨rfl,rfl,rfl,by rw [setO_size]; exact Nat.le_refl _,fun b hb hO=>h2o b fun e=>hO (.inl ⟨.n,by rw [e]; rfl⟩),fun b hb=>?_⟩⟩
 ·exact (hne .a _ rfl (fun e=>by cases e)).trans h.cell
 ·exact h.pm.next (hne .p _ rfl (fun e=>by cases e))
 ·have hm:=MapAt.done (mk:=strOf) (ks:=st.N.map (·.1)) (vs:=st.entV A) (heap_lt h.nm) name (.agg #[kv,av,.int .i64 n])
  have e1:putK (st.N.map (·.1)) name=(st.putN name ks ia n).N.map (·.1):=by simp [putK,hp,Ar.putN]
  have e2:putI (st.N.map (·.1)) name=st.N.length:=by simp [putI,hp]
  rw [e1,e2] at hm
  have e3:ents strOf (upd (st.entV A) st.N.length (.agg #[kv,av,.int .i64 n])) ((st.putN name ks ia n).N.map (·.1)) 0=ents strOf ((st.putN name ks ia n).entV A') ((st.putN name ks ia n).N.map (·.1)) 0:=by
   refine ents_congr fun j _ hj=>?_
   simp only [List.length_map,hlen] at hj
   by_cases hi:j=st.N.length
   ·subst hi
    rw [upd_same]
    simp [Ar.entV,Ar.putN,A',upd_same]
   ·rw [upd_other _ _ hi]
    simp only [Ar.entV,Ar.putN,A',upd_other _ _ hi]
    rw [List.getElem?_append_left (by omega)]
  unfold MapAt at hm ⊢
  rw [e3] at hm
  exact hm
 ·exact own_turn h.ord fun b hb=>hne .o b hb (fun e=>by cases e)
 ·exact own_congr (h.prow i p hp) fun b hb=>hne (.pc i) b (own_pc (get_lt hp) hb) (fun e=>by cases e)
 ·rcases hget i m hm with ⟨hi,hm⟩ | ⟨rfl,rfl⟩
  ·show OwnAt _ w2 (upd A.kv _ kv i) _ _ _
   rw [upd_other _ _ (by omega)]
   exact own_turn (h.krow i m hm) fun b hb=>hne (.ky i) b (own_ky hi hb) (fun e=>by cases e)
  ·show OwnAt _ w2 (upd A.kv _ kv _) _ _ _
   rw [upd_same]
   exact own_turn x.ok fun b hb=>hxn b (hE b (.inl hb))
 ·rcases hget i m hm with ⟨hi,hm⟩ | ⟨rfl,rfl⟩
  ·show OwnAt _ w2 (upd A.av _ av i) _ _ _
   rw [upd_other _ _ (by omega)]
   exact own_turn (h.arow i m hm) fun b hb=>hne (.ix i) b (own_ix hi hb) (fun e=>by cases e)
  ·show OwnAt _ w2 (upd A.av _ av _) _ _ _
   rw [upd_same]
   exact own_turn x.oa fun b hb=>hxn b (hE b (.inr hb))
 ·obtain ⟨s,hs⟩:=hb
  rcases hblk s b hs with h1 | ⟨_,h1⟩ | ⟨_,h1⟩
  ·exact h.from_ b ⟨s,h1⟩
  ·exact (hd b (hE b (.inl h1))).2
  ·exact (hd b (hE b (.inr h1))).2
 ·rcases hblk s b hs with h1 | ⟨k1,h1⟩ | ⟨k1,h1⟩ <;> rcases hblk t b ht with h2 | ⟨k2,h2⟩ | ⟨k2,h2⟩
  ·exact h.inj _ _ _ h1 h2
  ·exact absurd ⟨s,h1⟩ (hd b (hE b (.inl h2))).1
  ·exact absurd ⟨s,h1⟩ (hd b (hE b (.inr h2))).1
  ·exact absurd ⟨t,h2⟩ (hd b (hE b (.inl h1))).1
  ·rw [k1,k2]
  ·exact absurd h2 (x.d3 b h1)
  ·exact absurd ⟨t,h2⟩ (hd b (hE b (.inr h1))).1
  ·exact absurd h1 (x.d3 b h2)
  ·rw [k1,k2]
 ·obtain ⟨s,hs⟩:=hb
  rcases hblk s b hs with h1 | ⟨_,h1⟩ | ⟨_,h1⟩
  ·exact .inl (.inl ⟨s,h1⟩)
  ·exact .inl (.inr (hE b (.inl h1)))
  ·exact .inl (.inr (hE b (.inr h1)))
/-- The list of names is set. -/
theorem ArAt.putOrd (h:ArAt lo w A st) {w1:World} {l:List (List UInt8)} {v':Value} (hm:Mv w w1 (fun b=>Go.Vm.blk A.ov=some b) (fun b=>Go.Vm.blk v'=some b)) (hlo:lo≤w.heap.size)
  (hr:OwnAt (fun _=>False) w1 v' 9 1 (l.map cS)):let A':={ A with ov:=v' }
  ArAt lo (w1.setCell ⟨A.a,2,none⟩ v') A' { st with O:=l }∧Mv w (w1.setCell ⟨A.a,2,none⟩ v') (st.Own A) (Ar.Own A' { st with O:=l }):=by
 intro A'
 have hne:∀ s b,A.blk st s=some b→s≠.o→w1.heap[b]? = w.heap[b]? := fun s b hs hn=>hm.block b (h.lt ⟨s,hs⟩) fun hv=>hn (h.inj _ _ _ hs hv)
 have h2o:∀ b,b≠A.a→(w1.setCell ⟨A.a,2,none⟩ v').heap[b]? = w1.heap[b]? := fun b hb=>Below.heap_setCell _ _ _ _ hb
 have hne2:∀ s b,A.blk st s=some b→s≠.o→s≠.a→(w1.setCell ⟨A.a,2,none⟩ v').heap[b]? = w.heap[b]? := fun s b hs hn ha=>(h2o b fun e=>ha (h.inj _ _ _ hs (by rw [e]; rfl))).trans (hne s b hs hn)
 have hv':∀ b,Go.Vm.blk v'=some b→(Go.Vm.blk A.ov=some b)∨w.heap.size≤b:=hm.own
 have hva:Go.Vm.blk v'≠some A.a:=fun hb=>by
  rcases hv' _ hb with h1 | h1
  ·cases h.inj .o .a _ h1 rfl
  ·have:=heap_lt h.cell
   omega
 have hblk:∀ s b,A'.blk { st with O:=l } s=some b→(A.blk st s=some b∧s≠.o)∨(s=.o∧Go.Vm.blk v'=some b):=by
  intro s b hs
  cases s with
  | o=>exact .inr ⟨rfl,hs⟩
  | a=>exact .inl ⟨hs,fun e=>by cases e⟩
  | p=>exact .inl ⟨hs,fun e=>by cases e⟩
  | n=>exact .inl ⟨hs,fun e=>by cases e⟩
  | pc i=>exact .inl ⟨hs,fun e=>by cases e⟩
  | ky i=>exact .inl ⟨hs,fun e=>by cases e⟩
  | ix i=>exact .inl ⟨hs,fun e=>by cases e⟩
 have hinj1:∀ s b,A.blk st s=some b→s≠.o→Go.Vm.blk v'≠some b:=fun s b hs hn hv=>by
  rcases hv' b hv with h1 | h1
  ·exact hn (h.inj _ _ _ hs h1)
  ·have:=h.lt ⟨s,hs⟩
   omega
 refine ⟨⟨?_,?_,?_,?_,fun i p hp=>?_,fun i m hm=>?_,fun i m hm=>?_,fun b hb=>?_,fun s t b hs ht=>?_⟩,⟨hm.os,hm.tape,hm.output,by simpa [World.setCell] using hm.size,fun b hb hO=>?_,fun b hb=>?_⟩⟩
 ·have h1:=(hne .a _ rfl (fun e=>by cases e)).trans h.cell
  show (w1.setCell ⟨A.a,2,none⟩ v').heap[A.a]? = _
  unfold World.setCell
  simp only [Array.getElem?_modify,if_pos,h1,Option.map_some,Option.isSome_none,Bool.false_eq_true,if_false,List.setIfInBounds_toArray,List.set_cons_zero,List.set_cons_succ]
  rfl
 ·exact h.pm.next (hne2 .p _ rfl (fun e=>by cases e) (fun e=>by cases e))
 ·exact h.nm.next (hne2 .n _ rfl (fun e=>by cases e) (fun e=>by cases e))
 ·exact own_turn hr fun b hb=>h2o b fun e=>hva (by rw [← e]; exact hb)
 ·exact own_congr (h.prow i p hp) fun b hb=>hne2 (.pc i) b (own_pc (get_lt hp) hb) (fun e=>by cases e) (fun e=>by cases e)
 ·exact own_turn (h.krow i m hm) fun b hb=>hne2 (.ky i) b (own_ky (get_lt hm) hb) (fun e=>by cases e) (fun e=>by cases e)
 ·exact own_turn (h.arow i m hm) fun b hb=>hne2 (.ix i) b (own_ix (get_lt hm) hb) (fun e=>by cases e) (fun e=>by cases e)
 ·obtain ⟨s,hs⟩:=hb
  rcases hblk s b hs with ⟨h1,_⟩ | ⟨_,h1⟩
  ·exact h.from_ b ⟨s,h1⟩
  ·rcases hv' b h1 with h2 | h2
   ·exact h.from_ b ⟨.o,h2⟩
   ·omega
 ·rcases hblk s b hs with ⟨h1,k1⟩ | ⟨k1,h1⟩ <;> rcases hblk t b ht with ⟨h2,k2⟩ | ⟨k2,h2⟩
  ·exact h.inj _ _ _ h1 h2
  ·exact absurd h2 (hinj1 s b h1 k1)
  ·exact absurd h1 (hinj1 t b h2 k2)
  ·rw [k1,k2]
 ·rw [h2o b fun e=>hO ⟨.a,by rw [e]; rfl⟩]
  exact hm.block b hb fun hv=>hO ⟨.o,hv⟩
 ·obtain ⟨s,hs⟩:=hb
  rcases hblk s b hs with ⟨h1,_⟩ | ⟨_,h1⟩
  ·exact .inl ⟨s,h1⟩
  ·exact (hv' b h1).imp (fun h2=>⟨.o,h2⟩) id
end
end
end Go.Vm.ArzG
