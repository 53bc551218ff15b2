/-
  para.Hyphens: the walk.
-/
import Derived.Test.YtbnneoaaeidenaaDoorParHe
import Derived.OwnWalk
namespace Go.Vm.ParG
open Go.Proofs
open Go.RowKit Go.Shelf
theorem SAt.root (w:World) (lo:Nat) (hlo:lo≤w.heap.size):SAt lo (w.alloc (.cells #[.map none,.slice none 0 0] 50)) (fun _ _=>w.heap.size) [Nd.mk none none]:=by
  have h1:∀ i k,Used [Nd.mk none none] i k→i=0∧k=0:=fun i k ⟨nd,hn,hk⟩=>by
    match i,hn with
    | 0,hn =>
      simp at hn
      subst hn
      simpa using hk
    | i+1,hn=>simp at hn
  refine ⟨fun i k i' k' hu hu' _=>?_,fun i k nd hn hu=>?_,fun i nd es q hn he hq=>?_⟩
  · obtain ⟨rfl,rfl⟩:=h1 i k hu
    obtain ⟨rfl,rfl⟩:=h1 i' k' hu'
    exact ⟨rfl,rfl⟩
  · obtain ⟨rfl,rfl⟩:=h1 i k hu
    simp at hn
    subst hn
    exact ⟨hlo,_,(MapKept.heap_alloc w _).1,rfl⟩
  · match i,hn with
    | 0,hn =>
      simp at hn
      subst hn
      cases he
    | i+1,hn=>simp at hn
theorem wrap_sum {i j n:Nat} (h:i+j≤n) (hn:n≤4294967299):wrap64 ((i:Int)+(j:Int))=(i:Int)+(j:Int):=by unfold wrap64; omega
theorem max_step {i j:Nat} {lv' lv0 l:List Int} (hj:j < l.length) (h:maxInto lv' (i+j) (l.drop j)=lv0):maxInto (lv'.set (i+j) (max (lv'[i+j]?.getD 0) (l[j]'hj))) (i+(j+1)) (l.drop (j+1))=lv0:=by
  rw [List.drop_eq_getElem_cons hj] at h
  exact h
theorem odds_odd {lv:List Int} {m n:Nat} {xs r:List Int} (hm:m < n) (ho:(lv[2+m+1]?.getD 0).tmod 2=1) (h:xs++odds lv (2+m) (n - m)=r):(xs++[((2+m:Nat):Int)])++odds lv (2+(m+1)) (n - (m+1))=r:=by
  obtain ⟨q,hq⟩:∃ q,n - m=q+1:=⟨n - m - 1,by omega⟩
  rw [hq] at h
  rw [show n - (m+1)=q by omega,show 2+(m+1)=2+m+1 by omega,List.append_assoc]
  unfold odds at h
  rw [List.getD_eq_getElem?_getD,if_pos ho] at h
  exact h
theorem odds_even {lv:List Int} {m n:Nat} {xs r:List Int} (hm:m < n) (ho:¬ (lv[2+m+1]?.getD 0).tmod 2=1) (h:xs++odds lv (2+m) (n - m)=r):xs++odds lv (2+(m+1)) (n - (m+1))=r:=by
  obtain ⟨q,hq⟩:∃ q,n - m=q+1:=⟨n - m - 1,by omega⟩
  rw [hq] at h
  rw [show n - (m+1)=q by omega,show 2+(m+1)=2+m+1 by omega]
  unfold odds at h
  rw [List.getD_eq_getElem?_getD,if_neg ho] at h
  exact h
theorem ap_int {w:World} {base:Nat} {v:Value} {xs:List Int} (hown:w.ownsRow base 3 1 v xs.length (xs.map fun z=>Value.int .i64 z)) (z:Int) (hb:base≤w.heap.size) (hx:xs.length≤4294967296) :
    ∃ v' w',(Builtin.append_ #[24,24] 24 #[v,.slice (some ⟨w.heap.size,0,none⟩) 1 1]).run Tryd.prog (w.alloc (.cells #[.int .i64 z] 3))=.ok v' w'∧w'.ownsRow base 3 1 v' (xs++[z]).length ((xs++[z]).map fun z=>Value.int .i64 z)∧(w.alloc (.cells #[.int .i64 z] 3)).grownBy w' v.ownBlock:=by
  obtain ⟨i,hi,hz,hby,hs⟩:∃ i,Tryd.prog.info? 3=some i∧i.zero=some (.int .i64 0)∧i.bytes=8∧i.size=1:=⟨_,rfl,rfl,rfl,rfl⟩
  obtain ⟨v',w',h1,h2,h3,_⟩:=run_append_own (P:=Tryd.prog) (w.alloc (.cells #[.int .i64 z] 3)) base 24 24 3 i _ 1 8 (by kernel_rfl) hi hz hs hby rfl (by decide) v xs.length _ (hown.alloc _) ⟨w.heap.size,0,none⟩ 1 1 [.int .i64 z] rfl (fun j u hu=>by
    match j,hu with
    | 0,hu =>
      simp at hu
      subst hu
      exact World.cell?_alloc_new w #[.int .i64 z] 3 0
    | j+1,hu=>simp at hu) (by intro u hu; rcases List.mem_singleton.1 hu with rfl; rfl) (by show xs.length+1≤9223372036854775807; omega) (by omega) (by rw [World.size_alloc]; omega)
  exact ⟨v',w',h1,by simpa using h2,h3⟩
theorem fin_arith {i m w S:Nat} (hi:i=2+m) (hm:m < w - 3) (hS:S=w+2) (hw:w < 4294967290):((i:Int)+2≤(w:Int))∧wrap64 ((i:Int)+2)=(i:Int)+2∧wrap64 ((i:Int)+1)=(i:Int)+1∧i+1 < S+1∧(i:Int)+1 < (S:Int)+1∧(0:Int)≤(i:Int)+1:=by
  unfold wrap64
  refine ⟨?_,?_,?_,?_,?_,?_⟩ <;> omega
theorem fin_arith2 {i m w:Nat} (hi:i=2+m) (hm:¬ m < w - 3) (hg:m≤w - 3) (hw:w < 4294967290):¬ ((i:Int)+2≤(w:Int))∧wrap64 ((i:Int)+2)=(i:Int)+2:=by
  unfold wrap64
  refine ⟨?_,?_⟩ <;> omega
theorem row_cell {w:World} {LB:Nat} {lv:List Int} (h:w.heap[LB]? = some (.cells (ints lv) 3 (0,0))) {j:Nat} (hj:j < lv.length):w.cell? ⟨LB,j,none⟩=some (.int .i64 (lv[j]?.getD 0)):=by
  simp only [World.cell?,h,Option.isSome_none,Bool.false_eq_true,if_false,ints,List.getElem?_toArray,List.getElem?_map,List.getElem?_eq_getElem hj,Option.map_some,Option.getD_some]
theorem wrap_one {i n:Nat} (h:i≤n) (hn:n≤4294967299):wrap64 ((i:Int)+1)=((i+1:Nat):Int):=by unfold wrap64; omega
theorem lt_sum {i j n:Nat} (h:i+j < n+1):(i:Int)+(j:Int) < (n:Int)+1:=by omega
theorem ge_sum (i j:Nat):(0:Int)≤(i:Int)+(j:Int):=by omega
theorem sum_lt {i j l n m:Nat} (h:i+l≤n) (hj:j < l) (hm:n=m):i+j < m:=by omega
/-- The nodes and the row of levels. -/
structure HSt (W w:World) (B:Nat→Nat→Nat) (σ:Sto) (LB:Nat) (lv:List Int):Prop where
  sat:SAt W.heap.size w B σ
  below:Below W.heap.size W w
  row:w.heap[LB]? = some (.cells (ints lv) 3 (0,0))
  no:∀ i k,Used σ i k→B i k≠LB
  ge:W.heap.size≤LB
theorem HSt.drew {W w:World} {B:Nat→Nat→Nat} {σ:Sto} {LB:Nat} {lv:List Int} (h:HSt W w B σ LB lv):HSt W w.drew B σ LB lv:=⟨h.sat.drew,h.below.drew,h.row,h.no,h.ge⟩
theorem HSt.cell {W w:World} {B:Nat→Nat→Nat} {σ:Sto} {LB:Nat} {lv:List Int} (h:HSt W w B σ LB lv) {j:Nat} (hj:j < lv.length):w.cell? ⟨LB,j,none⟩=some (.int .i64 (lv[j]?.getD 0))∧w.frozen? ⟨LB,j,none⟩=false:=by
  refine ⟨?_,by simp [World.frozen?,h.row]⟩
  simp only [World.cell?,h.row,Option.isSome_none,Bool.false_eq_true,if_false,ints,List.getElem?_toArray,List.getElem?_map,List.getElem?_eq_getElem hj,Option.map_some,Option.getD_some]
theorem HSt.set {W w:World} {B:Nat→Nat→Nat} {σ:Sto} {LB:Nat} {lv:List Int} (h:HSt W w B σ LB lv) (j:Nat) (v:Int):HSt W (w.setCell ⟨LB,j,none⟩ (.int .i64 v)) B σ LB (lv.set j v):=by
  refine ⟨h.sat.other h.no,h.below.setCell h.ge _,?_,h.no,h.ge⟩
  unfold World.setCell
  simp only [Array.getElem?_modify,if_pos,h.row,Option.map_some,Option.isSome_none,Bool.false_eq_true,if_false,ints,List.setIfInBounds_toArray,List.map_set]
theorem fin_arith4 {g m n:Nat} (h:g+1+m=n):g < g+1:=by omega
theorem fin_arith5 {g m n:Nat} (h:g+1+m=n):g+(m+1)=n:=by omega
theorem fin_arith6 {m w:Nat} (h:m < w - 3) (hw:w < 4294967290):2+m≤4294967299:=by omega
theorem fin_arith7 {g m n:Nat} (h:g+m=n):m≤n:=by omega
theorem fin_arith8 {g m n:Nat} (hm:¬ m < n) (h:g+m=n):m=n:=by omega
theorem own_base {w:World} {a b:Nat} (h:a≤b) {E n:Nat} {v:Value} {xs:List Value} (ho:w.ownsRow b E 1 v n xs):w.ownsRow a E 1 v n xs:=by
  obtain ⟨h1,h2⟩:=ho
  refine ⟨h1,?_⟩
  rcases h2 with h2 | ⟨g,cap,cur,q1,q2,q3⟩
  · exact .inl h2
  · exact .inr ⟨g,cap,cur,q1,Nat.le_trans h q2,q3⟩
theorem fin_arith3 {x m w:Nat} (h1:w < 4294967290) (h2:x≤m) (h3:m < w - 3):x≤4294967296:=by omega
theorem ap_row {W w:World} {LB:Nat} {v:Value} {xs lv:List Int} (hown:w.ownsRow (LB+1) 3 1 v xs.length (xs.map fun z=>Value.int .i64 z)) (hb:Below W.heap.size W w) (hrow:w.heap[LB]? = some (.cells (ints lv) 3 (0,0))) (hge:W.heap.size≤LB) (z:Int) (hx:xs.length≤4294967296) :
    ∃ v' w',(Builtin.append_ #[24,24] 24 #[v,.slice (some ⟨w.heap.size,0,none⟩) 1 1]).run Tryd.prog (w.alloc (.cells #[.int .i64 z] 3))=.ok v' w'∧w'.ownsRow (LB+1) 3 1 v' (xs++[z]).length ((xs++[z]).map fun z=>Value.int .i64 z)∧w'.heap[LB]? = some (.cells (ints lv) 3 (0,0))∧Below W.heap.size W w':=by
  have hlt:=heap_lt hrow
  obtain ⟨v',w',h1,h2,h3⟩:=ap_int hown z hlt hx
  refine ⟨v',w',h1,h2,?_,?_⟩
  · refine (h3.block LB (by rw [World.size_alloc]; exact Nat.lt_succ_of_lt hlt) fun e=>?_).trans ((Below.heap_alloc w _ _ hlt).trans hrow)
    have:=(hown.lt LB e.symm).1
    omega
  · exact (hb.alloc hb.size _).grown h3 (by rw [World.size_alloc]; exact Nat.le_succ_of_le hb.size) fun k hk=>by have:=(hown.lt k hk).1; omega
theorem wpList_ap {ops:Array Oper} {rest:List Oper} {o:Oper} {a:Act} {Q:Exit→Act→World→Prop} {w w':World} {v v' y:Value} (hgd:o.guard=none) (s x:Operand)
    (ho:o.op=.call { callee:=.builtin .append,args:=#[s,x],argTypes:=#[24,24] }) (hty:o.type=24) (hs:a.eval s=v) (hx:a.eval x=y)
    (hr:(Builtin.append_ #[24,24] 24 #[v,y]).run Tryd.prog w=.ok v' w') (h:wpList Tryd.prog ops Q rest (a.put o.dst v') w'):wpList Tryd.prog ops Q (o :: rest) a w :=
  wpList_plain hgd fun _ hK=>by
    unfold Oper.wp execOp
    simp only [ho,hty,resolve,invoke,builtin,Sem.run_bind,Sem.run_pure,Result.andThen_ok,List.map_toArray,List.map_cons,List.map_nil,hs,hx,hr]
    exact hK _ _ h
theorem HSt.grow {W w w':World} {B:Nat→Nat→Nat} {σ:Sto} {LB:Nat} {lv:List Int} (h:HSt W w B σ LB lv) {row:Option Nat} (hg:w.grownBy w' row) (hr:∀ k,row=some k→W.heap.size≤k∧k≠LB):w'.heap[LB]? = some (.cells (ints lv) 3 (0,0))∧Below W.heap.size W w' :=
  ⟨(hg.block LB (heap_lt h.row) fun e=>(hr LB e.symm).2 rfl).trans h.row,h.below.grown hg (Nat.le_trans (Nat.le_refl _) h.below.size) fun k hk=>(hr k hk).1⟩
set_option maxRecDepth 100000 in
set_option maxHeartbeats 4000000 in
theorem Hyphens_at {W:World} {F:Nat} {word:List UInt8} {pats:List (List UInt8)} {r:List Int×Int} (h:hyph F word pats=some r) {v:Value} (hv:Texts W v pats) :
    Calls Tryd.prog 7 #[strOf word,v] W fun e W'=>∃ u,e=.returned (.tuple ⟨[u,.int .i64 r.2]⟩)∧Below W.heap.size W W'∧W'.ownsRow W.heap.size 3 1 u r.1.length (r.1.map fun z=>.int .i64 z):=by
  obtain ⟨c,len,cap,rfl,hlen,hcell⟩:∃ (c:Option Addr) (len cap:Nat),v=.slice c len cap∧len=pats.length∧∀ (j:Nat) (hj:j < len),∃ b off,c=some ⟨b,off,none⟩∧len≤cap∧b < W.heap.size∧W.cell? ⟨b,off+j,none⟩=some (strOf (pats.getD j [])):=by
    rcases hv with ⟨q,rfl,rfl⟩ | ⟨b,off,c,rfl,h1,h2,h3⟩
    · exact ⟨q,0,0,rfl,rfl,fun j hj=>absurd hj (Nat.not_lt_zero _)⟩
    · exact ⟨_,_,_,rfl,rfl,fun j hj=>⟨b,off,rfl,h1,h2,h3 j _ (by rw [List.getElem?_eq_getElem hj,List.getD_eq_getElem?_getD,List.getElem?_eq_getElem hj]; rfl)⟩⟩
  have HC:Aside (∀ (j:Nat) (hj:j < len),∃ b off,c=some ⟨b,off,none⟩∧len≤cap∧b < W.heap.size∧W.cell? ⟨b,off+j,none⟩=some (strOf (pats.getD j []))):=hcell
  clear hcell hv
  unfold hyph at h
  unfold strOf
  cases hL:para_letters F word with
  | none=>rw [hL] at h; cases h
  | some ok =>
    rw [hL] at h
    cases ok with
    | false =>
      cases h
      go_enter Tryd.func7,Tryd.ntmps7
      go_wp2_with (go_at_fn 15)
      refine (letters_at W hL).mono ?_
      rintro e w1 ⟨rfl,hb⟩
      go_wp2
      go_ret2
      exact ⟨_,rfl,hb,World.ownsRow_nil _ _ _ _⟩
    | true =>
      dsimp only at h
      go_enter Tryd.func7,Tryd.ntmps7
      go_wp2_with (go_at_fn 15)
      refine (letters_at W hL).mono ?_
      rintro e w1 ⟨rfl,hb⟩
      by_cases h256:256 < pats.length
      · rw [if_pos h256] at h
        cases h
        have hgt:(len:Int) > 256:=by omega
        go_wp2
        go_ret2
        exact ⟨_,rfl,hb,World.ownsRow_nil _ _ _ _⟩
      · rw [if_neg h256] at h
        have hgt:¬ (len:Int) > 256:=by omega
        split at h
        · cases h
        rename_i hwl
        go_wp2
        have hS:=SAt.root w1 W.heap.size hb.size
        have hb2:Below W.heap.size W (w1.alloc (.cells #[.map none,.slice none 0 0] 50)):=hb.alloc hb.size _
        revert hS hb2
        generalize World.alloc _ _=w2
        generalize w1.heap.size=rt
        intro hS hb2
        clear hb
        have HH:Aside (∃ X,hyphAll F pats [Nd.mk none none]=some X∧((match X with
          | none=>some ([],5)
          | some σ=>match goI σ ([46]++word++[46]) 0 (List.replicate (word.length+3) 0) with
            | none=>none
            | some lv=>some (odds lv 2 (word.length - 3),0))=some r)):=by
          revert h
          cases hyphAll F pats [Nd.mk none none] with
          | none=>intro h; cases h
          | some X=>cases X with
            | none=>intro h; exact ⟨_,rfl,h⟩
            | some σ=>intro h; exact ⟨_,rfl,h⟩
        clear h
        obtain ⟨X,hX,hXr⟩:=HH.out
        clear HH
        have HXr:Aside _:=hXr
        clear hXr
        have hwl':word.length < 4294967290:=by omega
        clear hwl
        have HW:Aside (word.length < 4294967290):=hwl'
        clear hwl' hgt h256
        go_loopg [31] (pats.length) (fun g v31 wx=>∃ (k:Nat) (B:Nat→Nat→Nat) (σ:Sto),g+k=pats.length∧v31=.int .i64 (k:Int)∧SAt W.heap.size wx B σ∧0 < σ.length∧B 0 0=rt∧Below W.heap.size W wx∧hyphAll F (pats.drop k) σ=some X)
        case atStart=>exact ⟨0,_,_,by omega,rfl,hS,by simp,rfl,hb2,hX⟩
        case round =>
          obtain ⟨k,B,σ,hg,rfl,hSx,hne,hrt,hbx,hXk⟩:=hrel
          by_cases hk:k < pats.length
          · rw [List.drop_eq_getElem_cons hk] at hXk
            unfold hyphAll at hXk
            have hpg:pats.getD k []=pats[k]:=by simp [List.getD_eq_getElem?_getD,List.getElem?_eq_getElem hk]
            obtain ⟨b,off,rfl,hc1,hc2,hc3⟩:=HC.out k (by omega)
            rw [hpg] at hc3
            have hc0:wr.cell? ⟨b,off+k,none⟩=some (strOf pats[k]):=(hbx.cell hc2).trans hc3
            unfold strOf at hc0
            clear hpg hc3 hc2 hc1
            cases hP:para_pattern F pats[k] with
            | none=>rw [hP] at hXk; cases hXk
            | some t =>
              obtain ⟨w,l,ok⟩:=t
              rw [hP] at hXk
              go_wp2_with (go_at_fn 16)
              refine (pattern_at wr hP).mono ?_
              rintro e w3 ⟨v,rfl,hb3,hrow⟩
              unfold strOf
              cases ok with
              | false =>
                cases hXk
                have hXr:=HXr.out
                cases hXr
                go_wp2
                go_ret2
                exact ⟨_,rfl,hbx.trans (hb3.mono hbx.size),World.ownsRow_nil _ _ _ _⟩
              | true =>
                rw [cond_true] at hXk
                split at hXk
                case isFalse=>cases hXk
                rename_i hfit
                obtain ⟨f1,f2,f3,f4⟩:=hfit
                obtain ⟨lb,lof,lc,rfl,g1,g2,g3,g4⟩:=hrow f3
                have HB:Aside (l.length < 4294967296∧l.length≤lc∧lb < w3.heap.size∧∀ (j:Nat),j < l.length→w3.cell? ⟨lb,lof+j,none⟩=some (Value.int IntKind.i64 (l.getD j 0))):=⟨f2,g3,g2,g4⟩
                have HD:Aside (w.length < 4611686018427387904∧l≠[]∧l.length≤(lvOf (rowed (addW σ 0 w).fst (addW σ 0 w).snd l.length) (addW σ 0 w).snd).length):=⟨f1,f3,f4⟩
                clear f1 f2 f3 f4 g2 g3 g4 hrow
                go_wp2_with (go_at_fn 17)
                have hadd:=add_at (hSx.below hb3) (Nat.le_trans hbx.size hb3.size) hne w HD.out.1 HB.out.1 HB.out.2.1 HB.out.2.2.1 HB.out.2.2.2 (fun i k hu=>Nat.ne_of_lt (Nat.lt_of_lt_of_le (hSx.lt hu) g1)) rfl HD.out.2.2
                rw [ptrV,hrt] at hadd
                refine hadd.mono ?_
                rintro e w4 ⟨rfl,B',hE⟩
                go_wp2
                obtain ⟨g',rfl⟩:∃ g',gk=g'+1:=⟨gk - 1,by omega⟩
                go_roundg g'
                case measure=>omega
                case rel =>
                  refine ⟨k+1,B',_,by omega,rfl,hE.sat,?_,(hE.agree 0 0 (used0' hne)).trans hrt,hbx.trans ((hb3.mono hbx.size).trans hE.below),hXk⟩
                  obtain ⟨nd,hnd,_⟩:=hE.mono 0 0 (used0' hne)
                  exact (List.getElem?_eq_some_iff.1 hnd).1
          · have hke:k=pats.length:=by omega
            subst hke
            rw [List.drop_length] at hXk
            simp only [hyphAll] at hXk
            cases hXk
            clear hX
            have hXr:=HXr.out
            dsimp only at hXr
            clear HXr
            clear HC hS hb2 hk
            obtain ⟨S,hS,hcat,hSl⟩:∃ S:List UInt8,[46]++word++[46]=S∧(⟨#[46]⟩:ByteArray)++⟨word.toArray⟩++⟨#[46]⟩=⟨S.toArray⟩∧S.length=word.length+2:=⟨_,rfl,rfl,by simp⟩
            rw [hS] at hXr
            have hmk:=mk_ints (S.length+1) (by have:=HW.out; omega) wr
            rw [show ((S.length+1:Nat):Int)=(S.length:Int)+1 from rfl] at hmk
            have hw1:wrap64 ((S.length:Int)+1)=(S.length:Int)+1:=by have:=HW.out; unfold wrap64; omega
            have HS:Aside (S.length=word.length+2):=hSl
            have HW2:Aside (S.length≤4294967298):=by have:=HW.out; exact (by omega:S.length≤4294967298)
            clear hSl hS
            have hno1:¬ 9223372036854775807 < 1+word.length+1:=by have:=HW.out; omega
            go_wp2
            clear hno1 hmk
            have hst:HSt W (wr.alloc (.cells (ints (List.replicate (S.length+1) 0)) 3)) B σ wr.heap.size (List.replicate (S.length+1) 0) :=
              ⟨hSx.alloc _,hbx.alloc hbx.size _,(MapKept.heap_alloc wr _).1,fun i k hu=>Nat.ne_of_lt (hSx.lt hu),hbx.size⟩
            revert hst
            generalize World.alloc _ _=w5
            generalize wr.heap.size=LB
            intro hst
            clear hSx hbx hcat hw1
            obtain ⟨lvF,hgo,hr⟩:∃ lvF,goI σ S 0 (List.replicate (word.length+3) 0)=some lvF∧r=(odds lvF 2 (word.length - 3),0):=by
              revert hXr
              cases goI σ S 0 (List.replicate (word.length+3) 0) with
              | none=>intro h; cases h
              | some l=>intro h; cases h; exact ⟨l,rfl,rfl⟩
            subst hr
            clear hXr
            rw [show word.length+3=S.length+1 by have:=HS.out; omega] at hgo
            go_loopg [57] (S.length) (fun g v57 wx=>∃ (i:Nat) (lv:List Int),g+i=S.length∧v57=.int .i64 (i:Int)∧HSt W wx B σ LB lv∧lv.length=S.length+1∧goI σ (S.drop i) i lv=some lvF)
            case atStart=>exact ⟨0,_,by omega,rfl,hst,by simp,hgo⟩
            case round =>
              obtain ⟨i,lv,hgi,rfl,hst,hll,hgo⟩:=hrel
              obtain ⟨gi,rfl⟩:∃ x,x=gk:=⟨_,rfl⟩
              by_cases hi:i < S.length
              · rw [List.drop_eq_getElem_cons hi] at hgo
                unfold goI at hgo
                obtain ⟨lvK,hgk,hgo2⟩:∃ lvK,goK σ i (S.drop i) 0 lv=some lvK∧goI σ (S.drop (i+1)) (i+1) lvK=some lvF:=by
                  rw [List.drop_eq_getElem_cons hi]
                  revert hgo
                  cases goK σ i (S[i] :: S.drop (i+1)) 0 lv with
                  | none=>intro h; cases h
                  | some l=>intro h; exact ⟨l,rfl,h⟩
                clear hgo
                have HG:Aside (goI σ (S.drop (i+1)) (i+1) lvK=some lvF):=hgo2
                clear hgo2
                have q4:=eqp0
                have q5:=eqp1
                go_wp2
                go_loopg [15,16] (S.length - i) (fun g v15 v16 wx=>∃ (k n:Nat) (lv:List Int),g+k=S.length∧v15=.pointer (some ⟨B n 0,0,none⟩)∧v16=.int .i64 (k:Int)∧n < σ.length∧HSt W wx B σ LB lv∧lv.length=S.length+1∧goK σ i (S.drop k) n lv=some lvK)
                case atStart=>exact ⟨i,0,lv,by omega,by rw [hrt],rfl,hne,hst,hll,hgk⟩
                case round =>
                  clear hst hll hgk
                  obtain ⟨k,n,lv,hgk,rfl,rfl,hn,hst,hll,hgo⟩:=hrel
                  by_cases hk:k < S.length
                  · rw [List.drop_eq_getElem_cons hk] at hgo
                    unfold goK at hgo
                    obtain ⟨hh,hx⟩:=byte_at S k hk
                    obtain ⟨nd,hnd⟩:∃ nd,σ[n]? = some nd:=⟨_,List.getElem?_eq_getElem hn⟩
                    have hch:chOf σ n=nd.ch.getD []:=by simp [chOf,hnd]
                    rw [hch] at hgo
                    obtain ⟨d0,d1,d2⟩:=hst.drew.sat.cells hnd
                    have lk:=hst.drew.sat.look hnd ((S[k]'hk).toNat:Int) false
                    cases hf:findCh (nd.ch.getD []) ((S[k]'hk).toNat:Int) with
                    | none =>
                      rw [hf] at lk hgo
                      simp only [orNil,Bool.false_eq_true,if_false] at lk
                      cases hgo
                      clear hch
                      go_wp2
                      go_region
                      go_wp2
                      obtain ⟨g',rfl⟩:∃ g',gi=g'+1:=⟨gi - 1,by omega⟩
                      go_roundg g'
                      case measure=>omega
                      case rel=>exact ⟨i+1,_,by omega,(by first | rfl | exact congrArg (Value.int .i64) (wrap_one (Nat.le_of_lt hi) (Nat.le_succ_of_le HW2.out))),hst.drew,hll,HG.out⟩
                    | some n' =>
                      rw [hf] at lk hgo
                      simp only [orNil,ptrV,Bool.false_eq_true,if_false] at lk
                      dsimp only at hgo
                      split at hgo
                      case isFalse=>cases hgo
                      rename_i hfit
                      clear hch
                      obtain ⟨es,hes⟩:∃ es,nd.ch=some es:=by
                        cases hc:nd.ch with
                        | none=>rw [hc] at hf; cases hf
                        | some es=>exact ⟨es,rfl⟩
                      have hn':n' < σ.length:=hst.sat.wf n nd es _ hnd hes (findCh_mem (by rw [hes] at hf; exact hf))
                      obtain ⟨nd',hnd'⟩:∃ nd',σ[n']? = some nd':=⟨_,List.getElem?_eq_getElem hn'⟩
                      obtain ⟨f0,f1,f2⟩:=hst.drew.sat.cells hnd'
                      have hlv:lvOf σ n'=nd'.lv.getD []:=by simp [lvOf,hnd']
                      rw [hlv] at hgo hfit
                      clear hlv
                      have HF:Aside (i+(nd'.lv.getD []).length≤lv.length):=hfit
                      have HO:Aside (goK σ i (List.drop (k+1) S) n' (maxInto lv i (nd'.lv.getD []))=some lvK):=hgo
                      clear hfit hgo hes
                      cases hl':nd'.lv with
                      | none =>
                        rw [hl'] at f1
                        simp only [lvV] at f1
                        go_wp2
                        go_region
                        go_wp2
                        refine wp_loop_rounds 1 ?_
                        rw [rounds_succ]
                        go_wp2
                        have hgo:=HO.out
                        rw [hl'] at hgo
                        obtain ⟨g',rfl⟩:∃ g',gk=g'+1:=⟨gk - 1,by omega⟩
                        go_roundg g'
                        case measure=>omega
                        case rel=>exact ⟨k+1,n',_,by omega,rfl,(by first | rfl | exact congrArg (Value.int .i64) (wrap_one (Nat.le_of_lt hk) (Nat.le_succ_of_le HW2.out))),hn',hst.drew,hll,hgo⟩
                      | some l => 
                        rw [hl'] at f1
                        simp only [lvV] at f1
                        go_wp2
                        go_region
                        go_wp2
                        have hgo:=HO.out
                        have hfit:=HF.out
                        rw [hl'] at hgo hfit
                        simp only [Option.getD_some] at hgo hfit
                        have HF:Aside (i+l.length≤lv.length):=hfit
                        have HO:Aside (goK σ i (List.drop (k+1) S) n' (maxInto lv i l)=some lvK):=hgo
                        clear hfit hgo
                        obtain ⟨gkk,rfl⟩:∃ x,x=gk:=⟨_,rfl⟩
                        go_loopg [83] (l.length) (fun g v83 wx=>∃ (j:Nat) (lv':List Int),g+j=l.length∧v83=.int .i64 (j:Int)∧HSt W wx B σ LB lv'∧lv'.length=S.length+1∧maxInto lv' (i+j) (l.drop j)=maxInto lv i l)
                        case atStart=>exact ⟨0,lv,by omega,rfl,hst.drew,hll,rfl⟩
                        case round =>
                          obtain ⟨j,lv',hgj,rfl,hst',hll',hmx⟩:=hrel
                          by_cases hj:j < l.length
                          · obtain ⟨r0,r1⟩:=hst'.sat.rowCell hnd' hl'
                            replace r0:=r0 j hj
                            have hmlt:i+j < S.length+1:=sum_lt HF.out hj hll
                            obtain ⟨s0,s1⟩:=hst'.cell (by rw [hll']; exact hmlt)
                            have hwm:=wrap_sum (Nat.le_of_lt_succ hmlt) (Nat.le_succ_of_le HW2.out)
                            have hmz:=lt_sum hmlt
                            have hm0:=ge_sum i j
                            clear r1 hnd' hnd hgi hgk hg lk f0 f1 f2 d0 d1 d2 hf hl' hst hll q4 q5 hlen hL
                            go_wp2
                            obtain ⟨g',rfl⟩:∃ g',gk=g'+1:=⟨gk - 1,by omega⟩
                            go_roundg g'
                            case measure=>omega
                            case rel=>exact ⟨j+1,_,by omega,(by first | rfl | exact congrArg (Value.int .i64) (wrap_one (Nat.le_of_lt (Nat.lt_of_le_of_lt (Nat.le_add_left j i) hmlt)) (Nat.succ_le_succ HW2.out))),hst'.set _ _,by rw [List.length_set]; exact hll',by have hm':=max_step hj hmx; rwa [List.getElem?_eq_getElem (by rw [hll']; exact hmlt),Option.getD_some] at hm'⟩
                          · have hje:j=l.length:=by omega
                            subst hje
                            rw [List.drop_length] at hmx
                            simp only [maxInto] at hmx
                            subst hmx
                            go_wp2
                            obtain ⟨g',rfl⟩:∃ g',gkk=g'+1:=⟨gkk - 1,by omega⟩
                            go_roundg g'
                            case measure=>omega
                            case rel=>exact ⟨k+1,n',_,by omega,rfl,(by first | rfl | exact congrArg (Value.int .i64) (wrap_one (Nat.le_of_lt hk) (Nat.le_succ_of_le HW2.out))),hn',hst',hll',HO.out⟩
                  · have hke:k=S.length:=by omega
                    subst hke
                    rw [List.drop_length] at hgo
                    simp only [goK] at hgo
                    cases hgo
                    go_wp2
                    obtain ⟨g',rfl⟩:∃ g',gi=g'+1:=⟨gi - 1,by omega⟩
                    go_roundg g'
                    case measure=>omega
                    case rel=>exact ⟨i+1,_,by omega,(by first | rfl | exact congrArg (Value.int .i64) (wrap_one (Nat.le_of_lt hi) (Nat.le_succ_of_le HW2.out))),hst,hll,HG.out⟩
              · have hie:i=S.length:=by omega
                subst hie
                rw [List.drop_length] at hgo
                simp only [goI] at hgo
                cases hgo
                go_wp2
                go_loopg [19,20] (word.length - 3) (fun g v19 v20 wx=>∃ (m:Nat) (xs:List Int),g+m=word.length - 3∧v20=.int .i64 ((2+m:Nat):Int)∧xs.length≤m∧wx.ownsRow (LB+1) 3 1 v19 xs.length (xs.map fun z=>Value.int .i64 z)∧Below W.heap.size W wx∧wx.heap[LB]? = some (.cells (ints lvF) 3 (0,0))∧xs++odds lvF (2+m) (word.length - 3 - m)=odds lvF 2 (word.length - 3))
                case atStart=>exact ⟨0,[],by omega,rfl,Nat.le_refl _,World.ownsRow_nil _ _ _ _,hst.below,hst.row,rfl⟩
                case round =>
                  obtain ⟨m,xs,hgm,rfl,hxs,hown,hbw,hrow,ho⟩:=hrel
                  obtain ⟨i,hi⟩:∃ i,i=2+m:=⟨_,rfl⟩
                  rw [← hi]
                  by_cases hm:m < word.length - 3
                  · obtain ⟨hc,hw1,hw2,hil,hbd,hb0⟩:=fin_arith hi hm HS.out HW.out
                    have hs0:=row_cell hrow (by rw [hll]; exact hil)
                    have HI:Aside (i=2+m∧gk+m=word.length - 3∧xs.length≤m∧m < word.length - 3):=⟨hi,hgm,hxs,hm⟩
                    have HL:Aside (lvF.length=S.length+1):=hll
                    have HO:Aside (xs++odds lvF (2+m) (word.length - 3 - m)=odds lvF 2 (word.length - 3)):=ho
                    obtain ⟨v',w',hap,hown',hrow',hbw'⟩:=ap_row hown hbw hrow hst.ge (i:Int) (by have h1:=HW.out; have h2:=HI.out.2.2; exact fin_arith3 h1 h2.1 h2.2)
                    have HN:Aside (w'.ownsRow (LB+1) 3 1 v' (xs++[(i:Int)]).length ((xs++[(i:Int)]).map fun z=>Value.int .i64 z)∧w'.heap[LB]? = some (.cells (ints lvF) 3 (0,0))∧Below W.heap.size W w'):=⟨hown',hrow',hbw'⟩
                    have HP:Aside (wr.ownsRow (LB+1) 3 1 u19 xs.length (xs.map fun z=>Value.int .i64 z)∧wr.heap[LB]? = some (.cells (ints lvF) 3 (0,0))):=⟨hown,hrow⟩
                    clear hown hown' hrow' hbw'
                    clear hst hi hgm hxs hm hil hll hgi hg hlen hL hne hrt hgo ho hrow
                    by_cases hodd:(lvF[i+1]?.getD 0).tmod 2=1
                    · go_wp2_with (first | (at_builtin; refine wpList_ap rfl _ _ rfl rfl rfl rfl hap ?_) | go_in)
                      obtain ⟨rfl,q2,q3,q4⟩:=HI.out
                      obtain ⟨g',rfl⟩:∃ g',gk=g'+1:=⟨gk - 1,by omega⟩
                      go_roundg g'
                      case measure=>exact fin_arith4 q2
                      case rel=>exact ⟨m+1,xs++[((2+m:Nat):Int)],fin_arith5 q2,(by first | rfl | exact congrArg (Value.int .i64) (wrap_one (n:=2+m) (Nat.le_refl _) (fin_arith6 q4 HW.out))),by rw [List.length_append]; exact Nat.succ_le_succ q3,HN.out.1,HN.out.2.2,HN.out.2.1,odds_odd q4 hodd HO.out⟩
                    · have hbeq:((lvF[i+1]?.getD 0).tmod 2 == 1)=false:=by simpa using hodd
                      clear hap
                      go_wp2
                      obtain ⟨rfl,q2,q3,q4⟩:=HI.out
                      obtain ⟨g',rfl⟩:∃ g',gk=g'+1:=⟨gk - 1,by omega⟩
                      go_roundg g'
                      case measure=>exact fin_arith4 q2
                      case rel=>exact ⟨m+1,xs,fin_arith5 q2,(by first | rfl | exact congrArg (Value.int .i64) (wrap_one (n:=2+m) (Nat.le_refl _) (fin_arith6 q4 HW.out))),Nat.le_succ_of_le q3,HP.out.1,hbw,HP.out.2,odds_even q4 hodd HO.out⟩
                  · obtain ⟨hc,hw1⟩:=fin_arith2 hi hm (fin_arith7 hgm) HW.out
                    have hme:=fin_arith8 hm hgm
                    rw [hme,Nat.sub_self] at ho
                    simp only [odds,List.append_nil] at ho
                    have HQ:Aside (wr.ownsRow (LB+1) 3 1 u19 xs.length (xs.map fun z=>Value.int .i64 z)):=hown
                    have hge:=hst.ge
                    clear hst hi hgm hxs hm hll hgi hg hlen hL hne hrt hgo hrow hown hme
                    go_wp2
                    go_ret2
                    refine ⟨_,rfl,hbw,?_⟩
                    dsimp only
                    rw [← ho]
                    exact own_base (Nat.le_succ_of_le hge) HQ.out
end Go.Vm.ParG
