/-
  archive.Load: the lines of a saved archive.
-/
import Derived.Test.YtflaiaeofndgmaaGreatDoorArWi
import Derived.Test.YtflaiaeofndgmaaGreatDoorArNp
namespace Go.Vm.ArzG
open Go.Proofs
open Go.RowKit Go.Shelf Go.Vm.ArzM
def loadLine (F:Nat) (st:Ar) (ld:Ld) (x:List UInt8):Option (Ar×Ld) :=
 if x.length < 9 then some (st,ld) else
 (archive_sealed F (x.take (x.length - 9))).bind fun z=>if z≠x++[10] then some (st,ld) else
 (ArzN.strings_Split F (x.take (x.length - 9)) [32]).bind fun ws=>if 0 < ws.length∧(∀ y∈ws,y.length≤1000000000) then
  (if ws.getD 0 []=[112,105,101,99,101]∧ws.length=3 then (filter_Decode F [⟨4,0⟩] (ws.getD 2 [])).bind fun te=>some (st,pieceTo ld (ws.getD 1 []) te.1 te.2)
  else if ws.getD 0 []=[110,97,109,101]∧2≤ws.length then nameF F st ld ws else some (st,ld)) else none
def loadLoop (F:Nat):Nat→List UInt8→Ar→Ld→Option (Ar×Ld)
 | 0,_,_,_=>none
 | n+1,s,st,ld=>if s=[] then some (st,ld) else (ArzN.strings_Cut F s [10]).bind fun c=>if c.1.length≤1000000000 then (loadLine F st ld c.1).bind fun p=>loadLoop F n c.2.1 p.1 p.2 else none
theorem Cut_at (W:World) {F:Nat} {s a b:List UInt8} {f:Bool} (h:ArzN.strings_Cut F s [10]=some (a,b,f)):Calls Tryz.prog 16 #[strOf s,strOf [10]] W fun e W'=>e=.returned (.tuple ⟨[strOf a,strOf b,.bool f]⟩)∧Below W.heap.size W W':=by
 refine (belowGs (gs:=[]) (us:=[strOf s,strOf [10]]) (ArzN.strings_Cut_ok h) rfl (show 2 < resSlot by decide) rfl ⟨rfl,rfl,trivial⟩ (by simp)).mono ?_
 rintro e W' ⟨u,S',β',rfl,hu,hb,_⟩
 obtain ⟨vs,rfl,_,hp⟩:=hu
 match vs,hp with
 | [x,y,z],hp =>
  obtain ⟨h1,h2,h3,_⟩:=hp
  have e1:x=strOf a:=h1
  have e2:y=strOf b:=h2
  have e3:z=.bool f:=h3.1
  subst e1 e2 e3
  exact ⟨rfl,hb⟩
 | [],hp=>exact hp.elim
 | [_],hp=>exact hp.2.elim
 | [_,_],hp=>exact hp.2.2.elim
 | _ :: _ :: _ :: _ :: _,hp=>exact hp.2.2.2.elim
theorem Split_at (W:World) {F:Nat} {s:List UInt8} {ws:List (List UInt8)} (h:ArzN.strings_Split F s [32]=some ws) (hne:0 < ws.length):Calls Tryz.prog 18 #[strOf s,strOf [32]] W fun e W'=>∃ b off c,e=.returned (.slice (some ⟨b,off,none⟩) ws.length c)∧ws.length≤c∧W.heap.size≤b∧b < W'.heap.size ∧
  (∀ i x,ws[i]? = some x→W'.cell? ⟨b,off+i,none⟩=some (strOf x))∧Below W.heap.size W W':=by
 refine (belowGs (gs:=[]) (us:=[strOf s,strOf [32]]) (ArzN.strings_Split_ok h) rfl (show 2 < resSlot by decide) rfl ⟨rfl,rfl,trivial⟩ (by simp)).mono ?_
 rintro e W' ⟨u,S',β',rfl,⟨hu1,hu⟩,hb,hfr⟩
 rcases hu with ⟨_,h5⟩ | ⟨b,off,c,arr,E,fz,h5,h6,h7,h8,h9,h10,h11⟩
 ·have:ws=[]:=List.map_eq_nil_iff.1 h5
  subst this
  exact absurd hne (Nat.lt_irrefl _)
 ·refine ⟨b,off,c,by rw [h5,List.length_map],by simpa using h6,hfr 0 b rfl (by rw [← hu1,h5]; rfl),heap_lt h9,fun i x hx=>?_,hb⟩
  obtain ⟨_,h12⟩:=REs.get _ off i [Dat.str x] h11 (by simp [cS,hx])
  obtain ⟨u,h13,h14⟩:=RCs.get _ _ 0 _ h12 rfl
  have e3:u=strOf x:=h14
  simpa [World.cell?,h9,e3] using h13
theorem own_lower {w:World} {lo lo':Nat} {e:TypeId} {sz n:Nat} {v:Value} {xs:List Value} (h:w.ownsRow lo e sz v n xs) (hl:lo'≤lo):w.ownsRow lo' e sz v n xs:=by
 obtain ⟨h1,h2⟩:=h
 refine ⟨h1,h2.imp id ?_⟩
 rintro ⟨g,cap,cur,q1,q2,q3⟩
 exact ⟨g,cap,cur,q1,Nat.le_trans hl q2,q3⟩
theorem ArAt.lower {w:World} {lo lo':Nat} {A:ArV} {st:Ar} (h:ArAt lo w A st) (hl:lo'≤lo):ArAt lo' w A st :=
 ⟨h.cell,h.pm,h.nm,h.ord,fun i p hp=>own_lower (h.prow i p hp) hl,h.krow,h.arow,fun b hb=>Nat.le_trans hl (h.from_ b hb),h.inj⟩
theorem ld_new {lo:Nat} {w:World} {A:ArV} {st:Ar} {lm:Nat} (h:ArAt lo w A st) (hm:w.heap[lm]? = some (.map #[] 0)) (hlm:lo≤lm) (hlm2:¬ st.Own A lm) (hlo:lo≤w.heap.size) :
  LdAt lo (w.alloc (.cells #[.map (some lm),.pointer (some ⟨A.a,0,none⟩),.slice none 0 0] 48)) A st ⟨w.heap.size,lm,.slice none 0 0,fun _=>.slice none 0 0⟩ ⟨[],[]⟩∧Mv w (w.alloc (.cells #[.map (some lm),.pointer (some ⟨A.a,0,none⟩),.slice none 0 0] 48)) (fun b=>st.Own A b∨b=lm) (AllOwn A st ⟨w.heap.size,lm,.slice none 0 0,fun _=>.slice none 0 0⟩ ⟨[],[]⟩):=by
 have hlt:=heap_lt hm
 have hO:∀ b,LdOwn ⟨w.heap.size,lm,.slice none 0 0,fun _=>.slice none 0 0⟩ ⟨[],[]⟩ b→b=w.heap.size∨b=lm:=by
  rintro b (hb | hb | hb | ⟨i,hi,_⟩)
  ·exact .inl hb
  ·exact .inr hb
  ·cases hb
  ·exact absurd hi (Nat.not_lt_zero i)
 have hB:Below w.heap.size w (w.alloc (.cells #[.map (some lm),.pointer (some ⟨A.a,0,none⟩),.slice none 0 0] 48)):=(Below.refl _ _).alloc (Nat.le_refl _) _
 refine ⟨⟨h.keep hB (Nat.le_refl _),heap_alloc_new w _,(hB.block lm hlt).trans hm,fun i p hp=>by simp at hp,World.ownsRow_nil _ _ _ _,fun b hb=>?_,fun b hb=>?_,(fun e=>by dsimp only at e; omega),⟨(fun e=>by cases e),(fun e=>by cases e)⟩,fun i b hi=>absurd hi (Nat.not_lt_zero i)⟩,⟨hB.os,hB.tape,hB.output,hB.size,fun b hb _=>hB.block b hb,fun b hb=>?_⟩⟩
 ·rcases hO b hb with rfl | rfl
  ·exact ⟨hlo,fun h1=>Nat.lt_irrefl _ (h.lt h1)⟩
  ·exact ⟨hlm,hlm2⟩
 ·rw [World.size_alloc]
  rcases hO b hb with rfl | rfl <;> omega
 ·rcases hb with hb | hb
  ·exact .inl (.inl hb)
  ·rcases hO b hb with rfl | rfl
   ·exact .inr (Nat.le_refl _)
   ·exact .inl (.inr rfl)
theorem len_gt {n:Nat} (h:2097152 < n):(2097152:Int) < (n:Int):=by omega
theorem len_le {n:Nat} (h:¬ 2097152 < n):¬ (2097152:Int) < (n:Int):=by omega
theorem sub9 {n:Nat} (h:n≤1000000000):wrap64 ((n:Int) - 9)=(n:Int) - 9:=by unfold wrap64; omega
theorem sub9neg {n:Nat} (h:n < 9):(n:Int) - 9 < 0:=by omega
theorem sub9pos {n:Nat} (h:¬ n < 9):¬ (n:Int) - 9 < 0∧(0:Int)≤(n:Int) - 9∧(n:Int) - 9≤n∧((n:Int) - 9).toNat=n - 9:=by omega
theorem app_nl (x:List UInt8):(⟨x.toArray⟩++⟨#[10]⟩:ByteArray)=⟨(x++[10]).toArray⟩:=by
 apply ByteArray.ext
 simp
set_option maxRecDepth 100000 in
set_option maxHeartbeats 4000000 in
theorem Load_at {W:World} (hl:Laid W) {s:List UInt8} {F n:Nat} {st:Ar} {ld:Ld} (hs:¬ 2097152 < s.length) (hL:loadLoop F n s ⟨[],[],[]⟩ ⟨[],[]⟩=some (st,ld)) :
    Calls Tryz.prog 5 #[strOf s] W fun e w'=>∃ A L,e=.returned (.tuple ⟨[.pointer (some ⟨A.a,0,none⟩),L.lv,.int .i64 0]⟩)∧LdAt W.heap.size w' A st L ld∧Below W.heap.size W w':=by
  have hs':=len_le hs
  have hmm:=@run_makeMap Tryz.prog
  unfold strOf
  go_enter Tryz.func5,Tryz.ntmps5
  go_wp2_with (go_at_fn 11)
  refine (New_at _).mono ?_
  rintro e w2 ⟨rfl,hw2⟩
  have hb0:Below W.heap.size W (W.alloc (.map #[] 0)):=(Below.refl _ _).alloc (Nat.le_refl _) _
  have hA:=ArAt.new (W.alloc (.map #[] 0))
  rw [← hw2] at hA
  have hb1:Below (W.alloc (.map #[] 0)).heap.size (W.alloc (.map #[] 0)) w2:=by
    rw [hw2]
    exact (((Below.refl _ _).alloc (Nat.le_refl _) _).alloc (by simp only [World.size_alloc]; omega) _).alloc (by simp only [World.size_alloc]; omega) _
  have hW1:(W.alloc (.map #[] 0)).heap.size=W.heap.size+1:=World.size_alloc _ _
  have hm:w2.heap[W.heap.size]? = some (.map #[] 0):=(hb1.block W.heap.size (by rw [hW1]; exact Nat.lt_succ_self _)).trans (heap_alloc_new W _)
  have hb2:Below W.heap.size W w2:=hb0.trans (hb1.mono (by rw [hW1]; exact Nat.le_succ _))
  have hA2:=hA.lower (show W.heap.size≤_ by rw [hW1]; exact Nat.le_succ _)
  have hnl:=ld_new hA2 hm (Nat.le_refl _) (fun ho=>by
    have:=hA.from_ _ ho
    rw [hW1] at this
    exact Nat.not_succ_le_self _ this) hb2.size
  clear hA hA2 hw2
  revert hnl
  obtain ⟨A0,hA0⟩:∃ A:ArV,A=⟨(W.alloc (.map #[] 0)).heap.size+2,(W.alloc (.map #[] 0)).heap.size,(W.alloc (.map #[] 0)).heap.size+1,.slice none 0 0,fun _=>.slice none 0 0,fun _=>.slice none 0 0,fun _=>.slice none 0 0⟩:=⟨_,rfl⟩
  rw [← hA0]
  have hAa:A0.a=W.heap.size+1+2:=by rw [hA0,hW1]
  rw [hAa]
  rintro ⟨hn1,hn2⟩
  have hb3:Below W.heap.size W (w2.alloc (.cells #[.map (some W.heap.size),.pointer (some ⟨W.heap.size+1+2,0,none⟩),.slice none 0 0] 48)):=hb2.trans (((Below.refl w2.heap.size _).alloc (Nat.le_refl _) _).mono hb2.size)
  clear hA0 hm hb0 hb1 hmm hn2
  go_wp2
  revert hn1 hb3
  generalize w2.alloc _=w3
  generalize w2.heap.size=X at *
  intro hn1 hb3
  have HL:Aside _:=hL
  clear hL
  go_loopg [0] n (fun g v0 wx=>∃ (s':List UInt8) (A:ArV) (st':Ar) (L:LdV) (ld':Ld),v0=.string ⟨s'.toArray⟩∧L.l=X∧LdAt W.heap.size wx A st' L ld'∧Below W.heap.size W wx∧loadLoop F g s' st' ld'=some (st,ld))
  case atStart=>exact ⟨s,A0,_,_,_,rfl,rfl,hn1,hb3,HL.out⟩
  case round =>
    obtain ⟨s',A,st',L,ld',rfl,hX,hh,hbW,hLL⟩:=hrel
    cases gk with
    | zero=>cases hLL
    | succ g =>
      unfold loadLoop at hLL
      by_cases hs0:s'=[]
      · rw [if_pos hs0] at hLL
        cases hLL
        subst hs0
        obtain ⟨_,d1,d2,_⟩:=hh.cells
        obtain ⟨_,f1,f2,_⟩:=hh.drew.cells
        rw [hX] at d1 d2 f1 f2
        have mixed:Tryz.prog.follows .mixedOrders=true:=by kernel_rfl
        go_wp2
        go_region
        all_goals
          go_wp2
          (try simp only [Exit.inBlock,Exit.then])
          refine bodyPost_ret (results_tmp3 rfl _ _ _) rfl ?_
          exact ⟨A,L,rfl,hh.drew,hbW.drew⟩
      · rw [if_neg hs0,Option.bind_eq_some_iff] at hLL
        obtain ⟨⟨x,rest,fl⟩,hC,hLL⟩:=hLL
        dsimp only at hLL
        split at hLL
        case isFalse=>cases hLL
        rename_i hx9
        rw [Option.bind_eq_some_iff] at hLL
        obtain ⟨⟨st1,ld1⟩,hline,hLL⟩:=hLL
        dsimp only at hLL
        have hse:s'.isEmpty=false:=by
          cases s' with
          | nil=>exact absurd rfl hs0
          | cons _ _=>rfl
        go_wp2_with (go_at_fn 16)
        refine (Cut_at wr hC).mono ?_
        rintro e w4 ⟨rfl,hb4⟩
        have hh4:=hh.keep hb4 (Nat.le_refl _)
        have hbW4:Below W.heap.size W w4:=hbW.trans (hb4.mono hbW.size)
        unfold strOf
        have h9:=sub9 hx9
        unfold loadLine at hline
        by_cases hl9:x.length < 9
        · rw [if_pos hl9] at hline
          cases hline
          have h9n:=sub9neg hl9
          go_wp2
          go_roundg g
          case measure=>exact Nat.lt_succ_self _
          case rel=>exact ⟨rest,A,st',L,ld',rfl,hX,hh4,hbW4,hLL⟩
        · rw [if_neg hl9,Option.bind_eq_some_iff] at hline
          obtain ⟨z,hz,hline⟩:=hline
          obtain ⟨p1,p2,p3,p4⟩:=sub9pos hl9
          go_wp2_with (go_at_fn 17)
          rw [str_take]
          refine (sealed_at w4 (hl.tbl.next hbW4) hz).mono ?_
          rintro e w5 ⟨rfl,hb5⟩
          have hh5:=hh4.keep hb5 (Nat.le_refl _)
          have hbW5:Below W.heap.size W w5:=hbW4.trans (hb5.mono hbW4.size)
          unfold strOf
          have hnl:=app_nl x
          by_cases hzx:z=x++[10]
          case neg =>
            rw [if_pos hzx] at hline
            cases hline
            have hzb:(z == x++[10])=false:=by simpa using hzx
            go_wp2
            go_roundg g
            case measure=>exact Nat.lt_succ_self _
            case rel=>exact ⟨rest,A,st',L,ld',rfl,hX,hh5,hbW5,hLL⟩
          subst hzx
          rw [if_neg (fun h=>h rfl),Option.bind_eq_some_iff] at hline
          obtain ⟨ws,hws,hline⟩:=hline
          split at hline
          case isFalse=>cases hline
          rename_i hwl
          obtain ⟨hw0,hwb⟩:=hwl
          have hzb:(x++[10] == x++[10])=true:=by simp
          go_wp2_with (go_at_fn 18)
          rw [str_take]
          refine (Split_at w5 hws hw0).mono ?_
          rintro e w6 ⟨b,off,c,rfl,hc6,hb6a,hb6b,hcell,hb6⟩
          have hh6:=hh5.keep hb6 (Nat.le_refl _)
          have hbW6:Below W.heap.size W w6:=hbW5.trans (hb6.mono hbW5.size)
          have hwords:Words w6 (AllOwn A st' L ld') (some ⟨b,off,none⟩) ws:=fun i y hy=>⟨b,off,rfl,hb6b,(fun ho=>by have:=hh5.ltAll ho; exact absurd hb6a (Nat.not_le.2 this)),hcell i y hy⟩
          obtain ⟨x0,hx0⟩:∃ y,ws[0]? = some y:=⟨_,List.getElem?_eq_getElem hw0⟩
          have c0:w6.cell? ⟨b,off,none⟩=some (.string ⟨x0.toArray⟩):=hcell 0 x0 hx0
          have hx0':ws.getD 0 []=x0:=by rw [List.getD_eq_getElem?_getD,hx0]; rfl
          rw [hx0'] at hline
          have hi0:(0:Int) < (ws.length:Int):=Int.ofNat_lt.2 hw0
          clear hcell hnl hzb hb6a hws hx0'
          by_cases hp:x0=[112,105,101,99,101]∧ws.length=3
          · obtain ⟨rfl,h3⟩:=hp
            rw [if_pos ⟨rfl,h3⟩,Option.bind_eq_some_iff] at hline
            obtain ⟨⟨t,e0⟩,hD,hline⟩:=hline
            cases hline
            have h3':(ws.length:Int)=3:=by rw [h3]; rfl
            match ws,h3,hwords,hD,hwb,hc6,h3',hi0,hLL with
            | [s0,s1,s2],_,hwords,hD,hwb,hc6,h3',hi0,hLL =>
              have hpc:=piece_at (c:=c) hbW6 hl hh6 hwords (hwb s1 (by simp)) hD hbW6.size
              rw [hX] at hpc
              go_wp2_with (go_at_fn 19)
              refine hpc.mono ?_
              rintro e w7 ⟨rfl,L',hL',hh7,m7⟩
              have hbW7:Below W.heap.size W w7:=hbW6.trans (m7.below (fun b hb=>hb.elim (fun h=>hh6.at_.from_ b h) fun h=>(hh6.low b h).1) hbW6.size)
              clear hpc
              go_wp2
              go_roundg g
              case measure=>exact Nat.lt_succ_self _
              case rel=>exact ⟨rest,A,st',L',_,rfl,hL',hh7,hbW7,hLL⟩
          · rw [if_neg hp] at hline
            by_cases hn:x0=[110,97,109,101]∧2≤ws.length
            · obtain ⟨rfl,h2⟩:=hn
              rw [if_pos ⟨rfl,h2⟩] at hline
              have h2':(2:Int)≤(ws.length:Int):=Int.ofNat_le.2 h2
              have hnm:=name_at hbW6 hl hh6 hwords h2 hc6 hline hbW6.size
              rw [hX] at hnm
              go_wp2_with (go_at_fn 20)
              refine hnm.mono ?_
              rintro e w7 ⟨rfl,A',L',hA',hL',hh7,m7⟩
              have hbW7:Below W.heap.size W w7:=hbW6.trans (m7.below (fun b hb=>hb.elim (fun h=>hh6.at_.from_ b h) fun h=>(hh6.low b h).1) hbW6.size)
              clear hnm
              go_wp2
              go_roundg g
              case measure=>exact Nat.lt_succ_self _
              case rel=>exact ⟨rest,A',st1,L',ld1,rfl,hL',hh7,hbW7,hLL⟩
            · rw [if_neg hn] at hline
              cases hline
              have q1:(x0=[112,105,101,99,101]→¬ (ws.length:Int)=3):=fun h1 h2=>hp ⟨h1,Int.ofNat.inj h2⟩
              have q2:(x0=[110,97,109,101]→¬ (2:Int)≤(ws.length:Int)):=fun h1 h2=>hn ⟨h1,Int.ofNat_le.1 h2⟩
              by_cases k1:x0=[112,105,101,99,101]
              · subst k1
                have k2:=q1 rfl
                go_wp2
                go_roundg g
                case measure=>exact Nat.lt_succ_self _
                case rel=>exact ⟨rest,A,st',L,ld',rfl,hX,hh6,hbW6,hLL⟩
              · have k1':(x0 == [112,105,101,99,101])=false:=by simpa using k1
                by_cases k3:x0=[110,97,109,101]
                · subst k3
                  have k4:=q2 rfl
                  go_wp2
                  go_roundg g
                  case measure=>exact Nat.lt_succ_self _
                  case rel=>exact ⟨rest,A,st',L,ld',rfl,hX,hh6,hbW6,hLL⟩
                · have k3':(x0 == [110,97,109,101])=false:=by simpa using k3
                  go_wp2
                  go_roundg g
                  case measure=>exact Nat.lt_succ_self _
                  case rel=>exact ⟨rest,A,st',L,ld',rfl,hX,hh6,hbW6,hLL⟩
set_option maxRecDepth 100000 in
set_option maxHeartbeats 4000000 in
theorem Load_big {W:World} {s:List UInt8} (hs:2097152 < s.length):Calls Tryz.prog 5 #[strOf s] W fun e w'=>e=.returned (.tuple ⟨[.pointer none,.slice none 0 0,.int .i64 2]⟩)∧Below W.heap.size W w':=by
  have hs':=len_gt hs
  unfold strOf
  go_enter Tryz.func5,Tryz.ntmps5
  go_wp2
  (try simp only [Exit.inBlock,Exit.then])
  refine bodyPost_ret (results_tmp3 rfl _ _ _) rfl ?_
  exact ⟨rfl,Below.refl _ _⟩
end Go.Vm.ArzG
