/-
  archive.Load: a line of a name.
-/
import Derived.Test.YtflaiaeofndgmaaGreatDoorArWh
namespace Go.Vm.ArzG
open Go.Proofs
open Go.RowKit Go.Shelf Go.Vm.ArzM
def Ld.at (ld:Ld) (n:Int):Option (List UInt8):=(pos (ld.B.map (·.1)) n).bind fun i=>(ld.B[i]?).map (·.2)
/-- The pieces of a name,one behind the other; none within: one is missing. -/
def nameLoop (ld:Ld):List (List UInt8)→List UInt8→Option (Option (List UInt8))
 | [],acc=>some (some acc)
 | x :: r,acc=>if x.length≤1000000000 then (if (numF x).2=false then some none else match ld.at (numF x).1 with
  | none=>some none
  | some p=>if acc.length≤16384 then (if acc.length+p.length≤4294967296 then nameLoop ld r (acc++p) else none) else nameLoop ld r acc) else none
def Ld.lose (ld:Ld) (x:List UInt8):Ld:={ ld with lost:=ld.lost++[x] }
def nameF (F:Nat) (st:Ar) (ld:Ld) (ws:List (List UInt8)):Option (Ar×Ld) :=
 if ld.lost.length≤1000000∧ws.length≤1000000000 then (nameLoop ld (ws.drop 2) []).bind fun o=>match o with
  | none=>some (st,ld.lose (ws.getD 1 []))
  | some acc=>(putF F st (ws.getD 1 []) acc).bind fun p=>some (p.2,if p.1=0 then ld else ld.lose (ws.getD 1 [])) else none
theorem wrap_succ {j n:Nat} (h:j < n) (hn:n≤1000000000):wrap64 ((j:Int)+1)=((j+1:Nat):Int):=by unfold wrap64; omega
theorem undrew {a b:World} {row:Option Nat} (h:a.drew.grownBy b row):a.grownBy b row:=⟨h.os,h.tape,h.output,h.size,h.block⟩
theorem le16 {n:Nat} (h:n≤16384):(n:Int)≤16384:=by omega
theorem nle16 {n:Nat} (h:¬ n≤16384):¬ (n:Int)≤16384:=by omega
theorem gk_succ {g j n:Nat} (h:g+j=n) (hj:j < n):g=g - 1+1:=by omega
theorem gk_next {g j n:Nat} (h:g+1+j=n):g+(j+1)=n:=by omega
theorem drop_end {j n:Nat} (h2:2≤n) (h:¬ j < n - 2):n≤2+j:=by omega
theorem nameLoop_len {ld:Ld}:∀ {ws:List (List UInt8)} {acc r:List UInt8},nameLoop ld ws acc=some (some r)→acc.length≤4294967296→r.length≤4294967296
 | [],acc,r,h,hl=>by
  unfold nameLoop at h
  cases h
  exact hl
 | x :: ws,acc,r,h,hl=>by
  unfold nameLoop at h
  split at h
  case isFalse=>cases h
  split at h
  ·cases h
  ·split at h
   ·cases h
   ·split at h
    ·split at h
     ·rename_i p _ _ hs
      exact nameLoop_len h (by simpa using hs)
     ·cases h
    ·exact nameLoop_len h hl
theorem two_lt {j n:Nat} (h:j < n - 2):2+j < n:=by omega
theorem BoxAt.below {w w':World} {B X:Nat} {cs:List AV} (h:BoxAt w B X cs) (hb:Below w.heap.size w w'):BoxAt w' B X cs:=by
 obtain ⟨S,β,h1,h2,h3,h4,h5,h6⟩:=h
 exact ⟨S,β,h1,h2.turn (fun _ _ _=>rfl) (fun _ h=>h) (fun b hS=>hb.block b (h5 b hS)) (fun _=>rfl) (fun j ho b hj=>hb.block b (h2.lt ho (fun _ _ e=>by cases e) hj)) (fun _ _=>rfl),h3,h4,fun b hS=>Nat.lt_of_lt_of_le (h5 b hS) hb.size,Nat.le_trans h6 hb.size⟩
theorem Len_ok (acc:List UInt8):ACall Tryz.prog 44 [.bp 1000000 0] [.box [.slf 0 74,.own 5 1 (acc.map cU)]] (.d (.v (.int .i64 (acc.length:Int)))) [.box [.slf 0 74,.own 5 1 (acc.map cU)]]:=strings_Builder_Len_ok (F:=0) (r:=((acc.length:Int),acc)) rfl
section
variable {lo:Nat} {w w4:World} {A:ArV} {st:Ar} {L:LdV} {ld:Ld} {o:Obj} {q:Option Addr} {n c gg cp:Nat} {x:List UInt8}
theorem LdAt.grown (h:LdAt lo w A st L ld) (hv:L.lv=.slice q n c) (hg:(w.alloc o).grownBy w4 (Value.slice q n c).ownBlock):w4.cell? ⟨L.l,2,none⟩=some (.slice q n c)∧w4.frozen? ⟨L.l,2,none⟩=false∧Mv w w4 (fun b=>L.lv.ownBlock=some b) (fun b=>L.lv.ownBlock=some b):=by
 rw [← hv] at hg ⊢
 have hl:=h.lt L.l (.inl rfl)
 have e:w4.heap[L.l]? = w.heap[L.l]? := (hg.block L.l (by rw [World.size_alloc]; omega) fun e=>h.d2.1 e.symm).trans (Below.heap_alloc _ _ _ hl)
 refine ⟨?_,?_,⟨hg.os,hg.tape,hg.output,Nat.le_trans (by rw [World.size_alloc]; omega) hg.size,fun b hb hO=>(hg.block b (by rw [World.size_alloc]; omega) fun e=>hO e.symm).trans (Below.heap_alloc _ _ _ hb),fun b hb=>.inl hb⟩⟩
 ·rw [World.cell?_of_block e]
  exact h.cells.2.2.1
 ·rw [World.frozen?_of_block e]
  exact h.cells.2.2.2 2
theorem LdAt.lost_end (h:LdAt lo w A st L ld) (hv:L.lv=.slice q ld.lost.length c) (hg:(w.alloc o).grownBy w4 (Value.slice q ld.lost.length c).ownBlock) (hat:(Value.slice q ld.lost.length c).ownBlock=some gg∨gg=w.heap.size+1)
  (hown:w4.ownsRow lo 9 1 (.slice (some ⟨gg,0,none⟩) (ld.lost.length+1) cp) (ld.lost.length+1) (ld.lost.map strOf++[strOf x])) (hlo:lo≤w.heap.size) :
  ∃ L',L'.l=L.l∧LdAt lo (w4.setCell ⟨L.l,2,none⟩ (.slice (some ⟨gg,0,none⟩) (ld.lost.length+1) cp)) A st L' (ld.lose x)∧Mv w (w4.setCell ⟨L.l,2,none⟩ (.slice (some ⟨gg,0,none⟩) (ld.lost.length+1) cp)) (AllOwn A st L ld) (AllOwn A st L' (ld.lose x)):=by
 obtain ⟨_,_,m⟩:=h.grown hv hg
 have hh:=h.lose (x:=x) (v':=.slice (some ⟨gg,0,none⟩) (ld.lost.length+1) cp) ⟨m.os,m.tape,m.output,m.size,m.block,fun b hb=>?_⟩ hlo hown
 ·refine ⟨_,?_,hh.1,hh.2⟩
  rfl
 ·have e:gg=b:=by simpa [Value.ownBlock] using hb
  subst e
  rw [hv]
  exact hat.imp id fun h=>by omega
theorem LdAt.lvLen (h:LdAt lo w A st L ld):∃ q c,L.lv=.slice q ld.lost.length c:=own_val h.lrow
/-- The bytes at a number. -/
theorem LdAt.bytes (h:LdAt lo w A st L ld) {m:Int} {p:List UInt8} (hp:ld.at m=some p):∃ v,valAt (.slice none 0 0) (ld.B.map (·.1)) L.bv m=v∧(pos (ld.B.map (·.1)) m).isSome=true∧RD (fun b=>LdOwn L ld b) w (.sl 1 (p.map cU)) v:=by
 unfold Ld.at at hp
 rw [Option.bind_eq_some_iff] at hp
 obtain ⟨i,h1,h2⟩:=hp
 rw [Option.map_eq_some_iff] at h2
 obtain ⟨x,h2,rfl⟩:=h2
 refine ⟨L.bv i,by simp [valAt,h1],by rw [h1]; rfl,?_⟩
 exact RD.mono (fun b h3=>.inr (.inr (.inr ⟨i,get_lt h2,h3⟩))) (fun _ _=>rfl) _ _ (h.brow i x h2)
theorem Ld.at_none {m:Int} (hp:ld.at m=none):pos (ld.B.map (·.1)) m=none:=by
 unfold Ld.at at hp
 cases h1:pos (ld.B.map (·.1)) m with
 | none=>rfl
 | some i =>
  rw [h1] at hp
  have hi:i < ld.B.length:=by simpa using pos_lt h1
  simp [List.getElem?_eq_getElem hi] at hp
end
set_option maxRecDepth 100000 in
set_option maxHeartbeats 4000000 in
theorem name_at {W0 w:World} {A:ArV} {st st':Ar} {L:LdV} {ld ld':Ld} {q:Option Addr} {c F:Nat} {ws:List (List UInt8)} (h0:Below W0.heap.size W0 w) (hl:Laid W0) (h:LdAt W0.heap.size w A st L ld) (hw:Words w (AllOwn A st L ld) q ws)
    (h2:2≤ws.length) (hc:ws.length≤c) (hN:nameF F st ld ws=some (st',ld')) (hlo:W0.heap.size≤w.heap.size) :
    Calls Tryz.prog 20 #[.pointer (some ⟨L.l,0,none⟩),.slice q ws.length c] w fun e w'=>e=.returned (.tuple #[])∧∃ A' L',A'.a=A.a∧L'.l=L.l∧LdAt W0.heap.size w' A' st' L' ld'∧Mv w w' (AllOwn A st L ld) (AllOwn A' st' L' ld'):=by
  unfold nameF at hN
  split at hN
  case isFalse=>cases hN
  rename_i hfit
  rw [Option.bind_eq_some_iff] at hN
  obtain ⟨R,hR,hN⟩:=hN
  obtain ⟨x1,hx1⟩:∃ x,ws[1]? = some x:=⟨_,List.getElem?_eq_getElem (by omega)⟩
  have hx1':ws.getD 1 []=x1:=by rw [List.getD_eq_getElem?_getD,hx1]; rfl
  rw [hx1'] at hN
  obtain ⟨b,off,rfl,hbw,hbo,_⟩:=hw 1 x1 hx1
  obtain ⟨i9,hi9,hz0,hz1,hz2⟩:=info_parts info9
  have hi1:(1:Int) < (ws.length:Int):=by omega
  have hi2:1 < ws.length:=by omega
  have HBd:Aside (ld.lost.length+1≤maxLen∧(ld.lost.length+1) * 16≤140737488355328):=by
    refine ⟨?_,?_⟩
    · unfold maxLen
      omega
    · omega
  go_enter Tryz.func20,Tryz.ntmps20
  have hX:=heap_alloc_new w (.cells #[.pointer none,.slice none 0 0] 74)
  have hb0:BoxAt (w.alloc (.cells #[.pointer none,.slice none 0 0] 74)) w.heap.size w.heap.size [.slf 0 74,.own 5 1 (([]:List UInt8).map cU)]:=boxNew hX
  have hh1:LdAt W0.heap.size (w.alloc (.cells #[.pointer none,.slice none 0 0] 74)) A st L ld:=h.keep ((Below.refl w.heap.size _).alloc (Nat.le_refl _) _) (Nat.le_refl _)
  have hb1:Below w.heap.size w (w.alloc (.cells #[.pointer none,.slice none 0 0] 74)):=(Below.refl w.heap.size _).alloc (Nat.le_refl _) _
  have hX1:w.heap.size < (w.alloc (.cells #[.pointer none,.slice none 0 0] 74)).heap.size:=by rw [World.size_alloc]; exact Nat.lt_succ_self _
  have HW:Aside (∀ i x,ws[i]? = some x→∃ b' off',some (⟨b,off,none⟩:Addr)=some ⟨b',off',none⟩∧b' < w.heap.size∧(w.alloc (.cells #[.pointer none,.slice none 0 0] 74)).cell? ⟨b',off'+i,none⟩=some (strOf x)):=fun i x hx=>by
    obtain ⟨b',off',e,g1,_,g3⟩:=hw i x hx
    exact ⟨b',off',e,g1,by rw [World.cell?_of_block (hb1.block b' g1)]; exact g3⟩
  have HN:Aside _:=hN
  have HB0:Aside (Below W0.heap.size W0 (w.alloc (.cells #[.pointer none,.slice none 0 0] 74))):=h0.trans (hb1.mono hlo)
  have HB:Aside (Below w.heap.size w (w.alloc (.cells #[.pointer none,.slice none 0 0] 74))):=hb1
  have HW2:Aside (∀ b,AllOwn A st L ld b→b < w.heap.size):=fun b hb=>h.ltAll hb
  go_wp2
  all_goals
    revert hb0 hh1 hX1 HW HB HB0
    clear hX hb1 hw hN
    generalize w.alloc _=w1
    intro hb0 hh1 hX1 HW HB0 HB
    go_loopg [14] (ws.length - 2) (fun g v14 wx=>∃ (j:Nat) (acc:List UInt8),g+j=ws.length - 2∧v14=.int .i64 (j:Int)∧Below w.heap.size w1 wx∧BoxAt wx w.heap.size w.heap.size [.slf 0 74,.own 5 1 (acc.map cU)]∧nameLoop ld (ws.drop (2+j)) acc=some R)
    case atStart=>exact ⟨0,[],by omega,rfl,Below.refl _ _,hb0,hR⟩
    case round =>
      obtain ⟨j,acc,hgj,rfl,hbe,hbx,hL⟩:=hrel
      have hhr:LdAt W0.heap.size wr A st L ld:=hh1.next hbe.size fun b hb=>hbe.block b (HW2.out b hb)
      have hWr:Below W0.heap.size W0 wr:=HB0.out.trans (hbe.mono hlo)
      have hlor:W0.heap.size≤wr.heap.size:=hWr.size
      by_cases hj:j < ws.length - 2
      · try (exfalso; omega)
        all_goals
          have hwk:=wrap_succ hj (Nat.le_trans (Nat.sub_le _ _) hfit.2)
          have hj2:2+j < ws.length:=two_lt hj
          rw [List.drop_eq_getElem_cons hj2] at hL
          unfold nameLoop at hL
          split at hL
          case isFalse=>cases hL
          rename_i hx9
          obtain ⟨b',off',e1,g1,g2⟩:=HW.out (2+j) _ (List.getElem?_eq_getElem hj2)
          cases e1
          have cw:wr.cell? ⟨b,off+2+j,none⟩=some (.string ⟨ws[2+j].toArray⟩):=by
            rw [World.cell?_of_block (hbe.block b g1),show off+2+j=off+(2+j) from Nat.add_assoc ..]
            exact g2
          clear g2
          go_wp2_with (go_at_fn 42)
          refine (number_at (hl.next hWr) hx9).mono ?_
          rintro e w3 ⟨rfl,hb3⟩
          have hh3:=hhr.keep hb3 (Nat.le_refl _)
          have hbx3:=hbx.below hb3
          obtain ⟨d0,_,d2,d3⟩:=hh3.cells
          have lk:(Instr.lookup 46 (.map (some L.lm)) (.int .i64 (numF ws[2+j]).1) true).run Tryz.prog w3=_:=hh3.mm.look mtB (numF ws[2+j]).1 true
          simp only [if_true] at lk
          have hbe3:Below w.heap.size w1 w3:=hbe.trans (hb3.mono (Nat.le_trans (Nat.le_of_lt hX1) hbe.size))
          have m3:Mv w w3 (AllOwn A st L ld) (AllOwn A st L ld):=Mv.of (HB.out.trans hbe3)
          have hW3:Below W0.heap.size W0 w3:=HB0.out.trans (hbe3.mono hlo)
          clear hb3 hbx hhr
          by_cases hgo:(numF ws[2+j]).2=true∧∃ p,ld.at (numF ws[2+j]).1=some p
          · obtain ⟨hok,p,hp⟩:=hgo
            rw [hok,if_neg (fun h=>by cases h),hp] at hL
            dsimp only at hL
            obtain ⟨v,hv,hk,hrd⟩:=hh3.bytes hp
            rw [hv,hk] at lk
            have ls:=boxCall (al:=[]) (us:=[]) (Len_ok acc) rfl (show 1 < resSlot by decide) hbx3
            go_wp2_with (go_at_fn 44)
            refine ls.mono ?_
            rintro e w5 ⟨v',rfl,⟨S',β',hv'⟩,hbx5,b5⟩
            have e4:v'=.int .i64 (acc.length:Int):=hv'.1
            subst e4
            clear ls hbx3 hv'
            have hbe5:Below w.heap.size w1 w5:=hbe3.trans b5
            have hrd5:RD (fun b=>LdOwn L ld b) w5 (.sl 1 (p.map cU)) v:=RD.mono (fun _ h=>h) (fun b hb=>b5.block b (HW2.out b (.inr hb))) _ _ hrd
            by_cases h16:acc.length≤16384
            · rw [if_pos h16] at hL
              split at hL
              case isFalse=>cases hL
              rename_i hsz
              have h16':=le16 h16
              have ws5:=boxCallD (Write_ok hsz) hrd5 (fun b hb=>⟨HW2.out b (.inr hb),Nat.lt_of_lt_of_le (Nat.lt_trans (HW2.out b (.inr hb)) hX1) hbe5.size⟩) hbx5
              go_wp2_with (go_at_fn 45)
              refine ws5.mono ?_
              rintro e w6 ⟨v6,rfl,_,hbx6,b6⟩
              clear ws5 hbx5
              go_wp2
              obtain ⟨g',rfl⟩:∃ g',gk=g'+1:=⟨gk - 1,gk_succ hgj hj⟩
              go_roundg g'
              case measure=>exact Nat.lt_succ_self _
              case rel=>exact ⟨j+1,acc++p,gk_next hgj,by first | rfl | exact congrArg (Value.int .i64) hwk,hbe5.trans b6,hbx6,hL⟩
            · rw [if_neg h16] at hL
              have h16':=nle16 h16
              go_wp2
              obtain ⟨g',rfl⟩:∃ g',gk=g'+1:=⟨gk - 1,gk_succ hgj hj⟩
              go_roundg g'
              case measure=>exact Nat.lt_succ_self _
              case rel=>exact ⟨j+1,acc,gk_next hgj,by first | rfl | exact congrArg (Value.int .i64) hwk,hbe5,hbx5,hL⟩
          · have e1:R=none:=by
              split at hL
              · cases hL
                rfl
              · rename_i hok
                split at hL
                · cases hL
                  rfl
                · rename_i p hp
                  exact absurd ⟨by simpa using hok,p,hp⟩ hgo
            have hcase:(numF ws[2+j]).2=false∨((numF ws[2+j]).2=true∧(pos (ld.B.map (·.1)) (numF ws[2+j]).1).isSome=false):=by
              cases hok:(numF ws[2+j]).2 with
              | false=>exact .inl rfl
              | true =>
                refine .inr ⟨rfl,?_⟩
                cases hp:ld.at (numF ws[2+j]).1 with
                | none=>rw [Ld.at_none hp]; rfl
                | some p=>exact absurd ⟨hok,p,hp⟩ hgo
            have hNN:=HN.out
            rw [e1] at hNN
            cases hNN
            obtain ⟨lq,lc,hlv⟩:=hh3.lvLen
            rw [hlv] at d2
            have hh3d:=hh3.drew
            obtain ⟨_,_,f2,f3⟩:=hh3d.cells
            rw [hlv] at f2
            obtain ⟨b5,off5,e5,g5,g6⟩:=HW.out 1 x1 hx1
            cases e5
            have cw1:w3.drew.cell? ⟨b,off+1,none⟩=some (.string ⟨x1.toArray⟩):=by
              rw [show w3.drew.cell? ⟨b,off+1,none⟩=w3.cell? ⟨b,off+1,none⟩ from rfl,World.cell?_of_block (hbe3.block b g5)]
              exact g6
            have mixed:Tryz.prog.follows .mixedOrders=true:=by kernel_rfl
            have hlo3:W0.heap.size≤w3.heap.size:=hW3.size
            have hlr:w3.ownsRow W0.heap.size 9 1 (.slice lq ld.lost.length lc) ld.lost.length (ld.lost.map strOf):=by
              have:=hh3.lrow
              rw [hlv] at this
              exact this
            have f2a:∀ o,(w3.alloc o).drew.cell? ⟨L.l,2,none⟩=some (.slice lq ld.lost.length lc):=fun o=>by
              have:=(hh3.keep ((Below.refl w3.heap.size _).alloc (Nat.le_refl _) o) (Nat.le_refl _)).drew.cells.2.2.1
              rw [hlv] at this
              exact this
            have f2b:∀ o,(w3.alloc o).cell? ⟨L.l,2,none⟩=some (.slice lq ld.lost.length lc):=f2a
            rcases hcase with hok | ⟨hok,hnk⟩
            · go_wp2
              go_region_law
                ((refine step_append_lies _ (by rfl) _ _ _ (by rfl) W0.heap.size 9 i9 _ 1 16 Tryz.underlying24 hi9 hz0 hz1 hz2 rfl (by decide) (.slice lq ld.lost.length lc) ld.lost.length (ld.lost.map strOf) (by rfl) ((hlr.alloc _).drew)
                    ⟨w3.heap.size,0,none⟩ 1 1 [strOf x1] (by rfl) (by rfl) (show ∀ j u,[strOf x1][j]? = some u→(w3.alloc (.cells #[strOf x1] 9)).cell? _=some u from cell_one_new w3 _ _) (by simp [Value.oneCell',strOf])
                    (by decide) HBd.out.1 HBd.out.2 (show W0.heap.size≤(w3.alloc _).heap.size by rw [World.size_alloc]; exact Nat.le_succ_of_le hlo3) (w3.heap.size+1) (show (w3.alloc _).heap.size=_ from World.size_alloc _ _) ?_; intro gg cp w4 hown4 hgrow0 hat hlt4; have hgrow:=undrew hgrow0; clear hgrow0; obtain ⟨g0,g1,g2⟩:=hh3.grown hlv hgrow))
              all_goals
                obtain ⟨L',k1,k2,k3⟩:=hh3.lost_end hlv hgrow hat hown4 hlo3
                clear g0 g1 g2
                go_wp2
                (try simp only [Exit.inBlock,Exit.then])
                refine bodyPost_ret (results_none (by rfl) _ _ _) (by rfl) ?_
                exact ⟨rfl,A,L',rfl,k1,k2,m3.trans k3⟩
            · go_wp2
              go_region_law
                ((refine step_append_lies _ (by rfl) _ _ _ (by rfl) W0.heap.size 9 i9 _ 1 16 Tryz.underlying24 hi9 hz0 hz1 hz2 rfl (by decide) (.slice lq ld.lost.length lc) ld.lost.length (ld.lost.map strOf) (by rfl) ((hlr.alloc _).drew)
                    ⟨w3.heap.size,0,none⟩ 1 1 [strOf x1] (by rfl) (by rfl) (show ∀ j u,[strOf x1][j]? = some u→(w3.alloc (.cells #[strOf x1] 9)).cell? _=some u from cell_one_new w3 _ _) (by simp [Value.oneCell',strOf])
                    (by decide) HBd.out.1 HBd.out.2 (show W0.heap.size≤(w3.alloc _).heap.size by rw [World.size_alloc]; exact Nat.le_succ_of_le hlo3) (w3.heap.size+1) (show (w3.alloc _).heap.size=_ from World.size_alloc _ _) ?_; intro gg cp w4 hown4 hgrow0 hat hlt4; have hgrow:=undrew hgrow0; clear hgrow0; obtain ⟨g0,g1,g2⟩:=hh3.grown hlv hgrow))
              all_goals
                obtain ⟨L',k1,k2,k3⟩:=hh3.lost_end hlv hgrow hat hown4 hlo3
                clear g0 g1 g2
                go_wp2
                (try simp only [Exit.inBlock,Exit.then])
                refine bodyPost_ret (results_none (by rfl) _ _ _) (by rfl) ?_
                exact ⟨rfl,A,L',rfl,k1,k2,m3.trans k3⟩
      · have e:ws.drop (2+j)=[]:=List.drop_eq_nil_of_le (drop_end h2 hj)
        rw [e] at hL
        unfold nameLoop at hL
        cases hL
        have hNN:=HN.out
        rw [Option.bind_eq_some_iff] at hNN
        obtain ⟨⟨e0,st1⟩,hP,hNN⟩:=hNN
        obtain ⟨b5,off5,e5,g5,g6⟩:=HW.out 1 x1 hx1
        cases e5
        have cw0:wr.cell? ⟨b,off+1,none⟩=some (.string ⟨x1.toArray⟩):=by
          rw [World.cell?_of_block (hbe.block b g5)]
          exact g6
        have cw1:wr.drew.cell? ⟨b,off+1,none⟩=some (.string ⟨x1.toArray⟩):=cw0
        obtain ⟨_,d1,_,_⟩:=hhr.cells
        obtain ⟨_,f1,_,_⟩:=hhr.drew.cells
        have hlen:acc.length≤9223372036854775807:=Nat.le_trans (nameLoop_len hR (by simp)) (by decide)
        have bs:=boxCall (al:=[]) (us:=[]) (b_String (off:=0) (cs:=[.slf 0 74,.own 5 1 (acc.map cU)]) (l:=acc) hlen rfl (by kernel_rfl)) rfl (show 1 < resSlot by decide) hbx.drew
        have mixed:Tryz.prog.follows .mixedOrders=true:=by kernel_rfl
        have h14:∀ args w,(callFunc 32 args).run Tryz.prog w=.ok (.enter 32 args) w:=enters_of Tryz.func32 (by kernel_rfl) rfl
        have h15:∀ args w,(callFunc 12 args).run Tryz.prog w=.ok (.enter 12 args) w:=enters_of Tryz.func12 (by kernel_rfl) rfl
        go_wp2
        go_region_law
          (first
           | (go_simp; go_at_call 32; refine bs.mono ?_; rintro e w5 ⟨v',rfl,⟨S',β',hv'⟩,_,b5⟩; have e4:v'=.string ⟨acc.toArray⟩:=hv'; subst e4; clear hv'; have hh5:=(hhr.drew).next b5.size (fun b hb=>b5.block b (HW2.out b hb)); have cw5:w5.cell? ⟨b,off+1,none⟩=some (.string ⟨x1.toArray⟩):=(World.cell?_of_block (b5.block b g5)).trans cw1; have k5:=hh5.cells.2.1)
           | (go_simp; go_at_call 12; refine (Put_at (hWr.trans (Below.trans (Below.refl _ wr).drew (b5.mono hlo))) hl.tbl hh5.at_ hP).mono ?_; rintro e w6 ⟨rfl,A',ka,k6,m6⟩))
        all_goals
          obtain ⟨hh6,n6⟩:=hh5.put ka k6 m6
          have m5:Mv w w5 (AllOwn A st L ld) (AllOwn A st L ld):=Mv.of (HB.out.trans (hbe.trans (Below.trans (Below.refl _ wr).drew b5)))
          have m7:=m5.trans n6
          have hlo6:W0.heap.size≤w6.heap.size:=Nat.le_trans (Nat.le_trans hlor b5.size) m6.size
          have cw6:w6.cell? ⟨b,off+1,none⟩=some (.string ⟨x1.toArray⟩):=(World.cell?_of_block (m6.block b (Nat.lt_of_lt_of_le (Nat.lt_trans g5 hX1) (Nat.le_trans hbe.size b5.size)) fun ho=>hbo (.inl ho))).trans cw5
          clear bs hbx b5 k5 m6 n6 m5 hh5 k6 cw0 cw1 cw5 d1 f1
          by_cases he:e0=0
          · rw [if_pos he] at hNN
            cases hNN
            subst he
            go_wp2
            go_end0
            exact ⟨rfl,A',L,ka,rfl,hh6,m7⟩
          · rw [if_neg he] at hNN
            cases hNN
            obtain ⟨_,_,d2,d3⟩:=hh6.cells
            obtain ⟨lq,lc,hlv⟩:=hh6.lvLen
            rw [hlv] at d2
            have f2:w6.drew.cell? ⟨L.l,2,none⟩=some (.slice lq ld.lost.length lc):=d2
            have cw7:w6.drew.cell? ⟨b,off+1,none⟩=some (.string ⟨x1.toArray⟩):=cw6
            have hlr:w6.ownsRow W0.heap.size 9 1 (.slice lq ld.lost.length lc) ld.lost.length (ld.lost.map strOf):=by
              have:=hh6.lrow
              rw [hlv] at this
              exact this
            have f2a:∀ o,(w6.alloc o).drew.cell? ⟨L.l,2,none⟩=some (.slice lq ld.lost.length lc):=fun o=>by
              have:=(hh6.keep ((Below.refl w6.heap.size _).alloc (Nat.le_refl _) o) (Nat.le_refl _)).drew.cells.2.2.1
              rw [hlv] at this
              exact this
            have f2b:∀ o,(w6.alloc o).cell? ⟨L.l,2,none⟩=some (.slice lq ld.lost.length lc):=f2a
            go_wp2
            go_region_law
              ((refine step_append_lies _ (by rfl) _ _ _ (by rfl) W0.heap.size 9 i9 _ 1 16 Tryz.underlying24 hi9 hz0 hz1 hz2 rfl (by decide) (.slice lq ld.lost.length lc) ld.lost.length (ld.lost.map strOf) (by rfl) ((hlr.alloc _).drew)
                  ⟨w6.heap.size,0,none⟩ 1 1 [strOf x1] (by rfl) (by rfl) (show ∀ j u,[strOf x1][j]? = some u→(w6.alloc (.cells #[strOf x1] 9)).cell? _=some u from cell_one_new w6 _ _) (by simp [Value.oneCell',strOf])
                  (by decide) HBd.out.1 HBd.out.2 (show W0.heap.size≤(w6.alloc _).heap.size by rw [World.size_alloc]; exact Nat.le_succ_of_le hlo6) (w6.heap.size+1) (show (w6.alloc _).heap.size=_ from World.size_alloc _ _) ?_; intro gg cp w8 hown4 hgrow0 hat hlt4; have hgrow:=undrew hgrow0; clear hgrow0; obtain ⟨g0,g1,g2⟩:=hh6.grown hlv hgrow))
            all_goals
              obtain ⟨L',q1,q2,q3⟩:=hh6.lost_end hlv hgrow hat hown4 hlo6
              clear g0 g1 g2
              go_wp2
              go_end0
              exact ⟨rfl,A',L',ka,q1,q2,m7.trans q3⟩
end Go.Vm.ArzG
