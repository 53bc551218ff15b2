/-
  archive.Load: a line of a piece.
-/
import Derived.Test.YtflaiaeofndgmaaGreatDoorArMt
namespace Go.Vm.ArzG
open Go.Proofs
open Go.RowKit Go.Shelf Go.Vm.ArzM
/-- The words of a line. -/
def Words (w:World) (O:Nat→Prop) (q:Option Addr) (ws:List (List UInt8)):Prop:=∀ i x,ws[i]? = some x→∃ b off,q=some ⟨b,off,none⟩∧b < w.heap.size∧¬ O b∧w.cell? ⟨b,off+i,none⟩=some (strOf x)
theorem Words.next {w w':World} {O O':Nat→Prop} {q:Option Addr} {ws:List (List UInt8)} (h:Words w O q ws) (m:Mv w w' O O'):Words w' O' q ws:=fun i x hx=>by
 obtain ⟨b,off,h1,h2,h3,h4⟩:=h i x hx
 refine ⟨b,off,h1,Nat.lt_of_lt_of_le h2 m.size,fun h5=>?_,?_⟩
 ·rcases m.own b h5 with h6 | h6
  ·exact h3 h6
  ·omega
 ·rw [World.cell?_of_block (m.block b h2 h3)]
  exact h4
theorem Decode_at {w:World} {g F:Nat} {s t:List UInt8} {e:Int} (hb:w.heap[g]? = some (.cells #[.int .i64 4,.int .i64 0] 89 (0,0))) (h:filter_Decode F [⟨4,0⟩] s=some (t,e)) :
  Calls Tryz.prog 43 #[.slice (some ⟨g,0,none⟩) 1 1,strOf s] w fun e' w'=>e'=.returned (.tuple ⟨[strOf t,.int .i64 e]⟩)∧Below w.heap.size w w':=by
 refine (belowGs (gs:=[]) (us:=[.slice (some ⟨g,0,none⟩) 1 1,strOf s]) (filter_Decode_ok h) rfl (show 2 < resSlot by decide) rfl ⟨?_,rfl,trivial⟩ (by simp)).mono ?_
 ·show RD (allS w) w (.sl 2 _) _
  simp only [RD]
  exact .inr ⟨g,0,1,_,89,(0,0),rfl,Nat.le_refl _,heap_lt hb,hb,rfl,⟨⟨_,rfl,rfl,rfl⟩,⟨_,rfl,rfl,rfl⟩,trivial⟩,trivial⟩
 ·rintro e W' ⟨u,S',β',rfl,hu,hb,_⟩
  obtain ⟨vs,rfl,_,hp⟩:=hu
  match vs,hp with
  | [a,b'],hp =>
   obtain ⟨h1,h2,_⟩:=hp
   have e1:a=strOf t:=h1
   have e2:b'=.int .i64 e:=h2.1
   subst e1 e2
   exact ⟨rfl,hb⟩
  | [],hp=>exact hp.elim
  | [_],hp=>exact hp.2.elim
  | _ :: _ :: _ :: _,hp=>exact hp.2.2.elim
/-- What piece makes. -/
def pieceTo (ld:Ld) (s1 t:List UInt8) (e:Int):Ld:=if (numF s1).2=true∧e=0∧pos (ld.B.map (·.1)) (numF s1).1=none then { ld with B:=ld.B++[((numF s1).1,t)] } else ld
set_option maxRecDepth 100000 in
set_option maxHeartbeats 4000000 in
theorem piece_at {W0 w:World} {A:ArV} {st:Ar} {L:LdV} {ld:Ld} {q:Option Addr} {c F:Nat} {s0 s1 s2 t:List UInt8} {e0:Int} (h0:Below W0.heap.size W0 w) (hl:Laid W0) (h:LdAt W0.heap.size w A st L ld) (hw:Words w (AllOwn A st L ld) q [s0,s1,s2])
    (h1:s1.length≤1000000000) (hD:filter_Decode F [⟨4,0⟩] s2=some (t,e0)) (hlo:W0.heap.size≤w.heap.size) :
    Calls Tryz.prog 19 #[.pointer (some ⟨L.l,0,none⟩),.slice q 3 c] w fun e w'=>e=.returned (.tuple #[])∧∃ L',L'.l=L.l∧LdAt W0.heap.size w' A st L' (pieceTo ld s1 t e0)∧Mv w w' (AllOwn A st L ld) (AllOwn A st L' (pieceTo ld s1 t e0)):=by
  obtain ⟨b,off,rfl,_,_,c1⟩:=hw 1 s1 rfl
  unfold strOf at c1
  go_enter Tryz.func19,Tryz.ntmps19
  go_wp2_with (go_at_fn 42)
  refine (number_at (hl.next h0) h1).mono ?_
  rintro e w1 ⟨rfl,hb1⟩
  have hh1:=h.keep hb1 (Nat.le_refl _)
  have m1:Mv w w1 (AllOwn A st L ld) (AllOwn A st L ld):=Mv.of hb1
  have hs1:W0.heap.size≤w1.heap.size:=Nat.le_trans hlo hb1.size
  have hw1:=hw.next m1
  have m2:Mv w (w1.alloc (.cells #[.int .i64 4,.int .i64 0] 89)) (AllOwn A st L ld) (AllOwn A st L ld):=m1.trans (Mv.of ((Below.refl w1.heap.size _).alloc (Nat.le_refl _) _))
  obtain ⟨b',off',hq,_,_,c2⟩:=hw.next m2 2 s2 rfl
  cases hq
  unfold strOf at c2
  have hh2:LdAt W0.heap.size (w1.alloc (.cells #[.int .i64 4,.int .i64 0] 89)) A st L ld:=hh1.keep ((Below.refl w1.heap.size _).alloc (Nat.le_refl _) _) (Nat.le_refl _)
  have hD2:=Decode_at (g:=w1.heap.size) (heap_alloc_new w1 _) hD
  clear hb1 c1
  go_wp2_with (go_at_fn 43)
  refine hD2.mono ?_
  rintro e w3 ⟨rfl,hb3⟩
  have hh3:=hh2.keep hb3 (Nat.le_refl _)
  have m3:Mv w w3 (AllOwn A st L ld) (AllOwn A st L ld):=m2.trans (Mv.of hb3)
  have hs3:W0.heap.size≤w3.heap.size:=by
    have:=hb3.size
    rw [World.size_alloc] at this
    omega
  clear hD2 hb3 c2 hw1 hh1 hh2 m1 m2
  obtain ⟨d0,_,_,_⟩:=hh3.cells
  have lk:(Instr.lookup 46 (.map (some L.lm)) (.int .i64 (numF s1).1) true).run Tryz.prog w3=_:=hh3.mm.look mtB (numF s1).1 true
  simp only [if_true] at lk
  cases hok:(numF s1).2 with
  | false =>
    have e1:pieceTo ld s1 t e0=ld:=if_neg fun h=>by rw [hok] at h; cases h.1
    go_wp2
    go_end0
    (try rw [e1])
    exact ⟨rfl,L,rfl,hh3,m3⟩
  | true =>
    by_cases he:e0=0
    case neg =>
      have e1:pieceTo ld s1 t e0=ld:=if_neg fun h=>he h.2.1
      go_wp2
      go_end0
      (try rw [e1])
      exact ⟨rfl,L,rfl,hh3,m3⟩
    subst he
    cases hp:pos (ld.B.map (·.1)) (numF s1).1 with
    | some i =>
      have e1:pieceTo ld s1 t 0=ld:=if_neg fun h=>by rw [hp] at h; cases h.2.2
      rw [hp] at lk
      simp only [Option.isSome_some] at lk
      go_wp2
      go_end0
      (try rw [e1])
      exact ⟨rfl,L,rfl,hh3,m3⟩
    | none =>
      have e1:pieceTo ld s1 t 0={ ld with B:=ld.B++[((numF s1).1,t)] }:=if_pos ⟨hok,rfl,hp⟩
      rw [hp] at lk
      simp only [Option.isSome_none] at lk
      have hcv:∀ wx:World,(convert 9 72 (.string ⟨t.toArray⟩)).run Tryz.prog wx=.ok (.slice (some ⟨wx.heap.size,0,none⟩) (⟨t.toArray⟩:ByteArray).size (grownCap wx (⟨t.toArray⟩:ByteArray).size 0 5)) (Lib.bytesWorld wx 5 ⟨t.toArray⟩):=fun wx=>Lib.run_convert_string_bytes wx 9 72 5 _ (u:=.string) (by kernel_rfl) (by kernel_rfl) (by kernel_rfl)
      have hsz:(⟨t.toArray⟩:ByteArray).size=t.length:=by simp [ByteArray.size]
      rw [hsz] at hcv
      have mu:(Instr.mapUpdate 46 (.map (some L.lm)) (.int .i64 (numF s1).1) (.slice (some ⟨w3.heap.size,0,none⟩) t.length (grownCap w3 t.length 0 5))).run Tryz.prog (Lib.bytesWorld w3 5 ⟨t.toArray⟩)=_:=(hh3.keep (Lib.bytesWorld_below w3 5 _) (Nat.le_refl _)).mm.put mtB (numF s1).1 (.slice (some ⟨w3.heap.size,0,none⟩) t.length (grownCap w3 t.length 0 5))
      have hfin:=hh3.piece (t:=t) (v:=.slice (some ⟨w3.heap.size,0,none⟩) t.length (grownCap w3 t.length 0 5)) (Lib.bytesWorld_below w3 5 ⟨t.toArray⟩) hp hs3 (fun b hb=>by cases hb; exact ⟨Nat.le_refl _,by rw [Lib.bytesWorld_size]; exact Nat.lt_succ_self _⟩) (bytes_rd w3 t)
      unfold strOf
      go_wp2
      go_end0
      (try rw [e1])
      refine ⟨rfl,_,?_,hfin.1,m3.trans hfin.2⟩
      rfl
end Go.Vm.ArzG
