/-
  FOLD,PLAIN,part 8: the pages.
-/
import Derived.Test.YteidenpelbooeaaBinLf
namespace Go.Vm.BinG
def pg (C turn:Int) (x:S_FoldLeaf) (back half:Bool):S_FoldPage:=S_FoldPage.mk back (bif back then C - 1 - x.f0 else x.f0) x.f1 (bif half then (turn+2).tmod 4 else turn)
def pgs (C turn:Int) (x:S_FoldLeaf):List S_FoldPage:=[pg C turn x (!(x.f2 == x.f3)) x.f3,pg C turn x (x.f2 == x.f3) (!(x.f3 == (turn.tmod 2 == 1)))]
theorem fold_Pages_c1_eq (F:Nat) (back half:Bool) (x:S_FoldLeaf) (turn C:Int) (c8:Int) (c9:List S_FoldStep) (out:List S_FoldPage) (hx:0≤x.f0∧x.f0≤1000) (ht:0≤turn∧turn≤3) (hC:1≤C∧C≤8) (ho:out.length≤100000) :
    fold_Pages_c1 F back half x.f0 x.f1 x.f2 x.f3 turn C c8 c9 out=some (x.f0,x.f1,x.f2,x.f3,turn,C,c8,c9,out++[pg C turn x back half]):=by
  have w1:IntKind.i64.wrap (IntKind.i64.wrap (C - 1) - x.f0)=C - 1 - x.f0:=by rw [wrap_id (x:=C - 1) (by omega),wrap_id (by omega)]
  have w2:IntKind.i64.wrap (turn+2)=turn+2:=wrap_id (by omega)
  unfold fold_Pages_c1 pg
  rw [w1,w2]
  cases back <;> cases half <;> simp only [cond_true,cond_false,call_some] <;> rw [chk_pos (by simp; omega)]
theorem fold_Pages_L0_eq (F:Nat) (turn C:Int) (ht:0≤turn∧turn≤3) (hC:1≤C∧C≤8) (c8:Int) (c9:List S_FoldStep) (side e:Int) :
    ∀ (B A:List S_FoldLeaf) (n:Nat) (out:List S_FoldPage),B.length < n→(∀ x∈B,0≤x.f0∧x.f0≤1000)→out.length+2 * B.length≤10000→A.length+B.length≤10000 →
      fold_Pages_L0 F (A++B,side,e) n C c8 c9 turn out A.length=some (out++B.flatMap (pgs C turn)):=by
  intro B
  induction B with
  | nil =>
    intro A n out hn _ _ _
    obtain ⟨n,rfl⟩:∃ k,n=k+1:=⟨n - 1,by omega⟩
    have hd:decide ((A.length:Int) < ((A++([]:List S_FoldLeaf)).length:Int))=false:=by simp
    rw [fold_Pages_L0]
    simp only [hd,cond_false]
    simp
  | cons x B ih =>
    intro A n out hn hx ho hl
    obtain ⟨n,rfl⟩:∃ k,n=k+1:=⟨n - 1,by omega⟩
    simp only [List.length_cons] at hn ho hl
    have hd:decide ((A.length:Int) < ((A++x :: B).length:Int))=true:=by simp; omega
    have hw:IntKind.i64.wrap ((A.length:Int)+1)=((A.length+1:Nat):Int):=by rw [wrap_id (by omega)]; omega
    have hg:(A++x :: B).getD A.length (S_FoldLeaf.mk 0 0 false false)=x:=by
      rw [List.getD_eq_getElem?_getD,List.getElem?_append_right (Nat.le_refl _)]
      simp
    have hI:=ih (A++[x]) n (out++[pg C turn x (!(x.f2 == x.f3)) x.f3]++[pg C turn x (x.f2 == x.f3) (!(x.f3 == (turn.tmod 2 == 1)))]) (by omega) (fun y hy=>hx y (by simp [hy])) (by simp; omega) (by simp; omega)
    simp only [List.append_assoc,List.singleton_append,List.length_append,List.length_singleton] at hI
    rw [fold_Pages_L0]
    simp only [hd,cond_true,Int.toNat_natCast,hg,lett_eq,hw]
    rw [chk_pos (by simp; omega)]
    rw [fold_Pages_c1_eq F _ _ x turn C c8 c9 out (hx x (by simp)) ht hC (by omega)]
    simp only [call_some,Bool.not_not]
    rw [fold_Pages_c1_eq F _ _ x turn C c8 c9 _ (hx x (by simp)) ht hC (by simp; omega)]
    simp only [call_some,List.append_assoc,List.singleton_append]
    rw [hI]
    simp [pgs]
/-- The spine's direction,the turn,by the side of the last fold. -/
def spn (side:Int):Int×Int:=if side=0 then (-1,0) else if side=1 then (1,0) else if side=2 then (0,-1) else (0,1)
def trn (side:Int):Int:=if side=0 then 0 else if side=1 then 2 else if side=2 then 1 else 3
theorem ref3_Read_L2_eq (F:Nat) (a0:S_FoldScheme) {C:Nat} (hC:a0.f0=C) (hC8:1≤C∧C≤8) (y2:(List Int)×(List Int)×(List Int)×(List Int)×(List Int)×(List Int)×(List Int)×(List Int)×Int×Int×Int×Int×Int) (v1:Int) (i:Nat) (hi:i≤1000) (hg:y2.1.getD v1.toNat 0=(i:Int))
    (side:Int) (hs:0≤side∧side≤3) (fx fy:Bool) (acc:List S_FoldPage) (ha:acc.length≤10000) (n:Nat) (hn:3≤n) :
    ref3_Read_L2 F a0 (spn side) y2 v1 (pB (!fx) - pB fx) 0 0 (pB (!fy) - pB fy) (fx == fy) n acc 0=some (acc++pgs C (trn side) ⟨((i % C:Nat):Int),((i / C:Nat):Int),fx,fy⟩):=by
  obtain ⟨n,rfl⟩:∃ k,n=k+3:=⟨n - 3,by omega⟩
  have em:(i:Int).tmod (C:Int)=((i % C:Nat):Int):=rfl
  have ed:(i:Int).tdiv (C:Int)=((i / C:Nat):Int):=rfl
  have hq:i % C < C:=Nat.mod_lt _ (by omega)
  have hd:i / C≤i:=Nat.div_le_self _ _
  have hne:¬ C=0:=by omega
  have hlen:acc.length≤4294967295∧acc.length≤4294967294:=by omega
  rw [List.getD_eq_getElem?_getD] at hg
  generalize i % C=qm at em hq ⊢
  generalize i / C=qd at ed hd ⊢
  have w1:IntKind.i64.wrap (qd:Int)=qd:=wrap_id (by omega)
  have w2:IntKind.i64.wrap ((C:Int) - 1)=(C:Int) - 1:=wrap_id (by omega)
  have w3:IntKind.i64.wrap ((C:Int) - 1 - qm)=(C:Int) - 1 - qm:=wrap_id (by omega)
  have k0:IntKind.i64.wrap 0=0:=rfl
  have k1:IntKind.i64.wrap 1=1:=rfl
  have k2:IntKind.i64.wrap 2=2:=rfl
  have km:IntKind.i64.wrap (-1) = -1:=rfl
  have hside:side=0∨side=1∨side=2∨side=3:=by omega
  rcases hside with rfl | rfl | rfl | rfl <;> cases fx <;> cases fy <;>
    simp [ref3_Read_L2,chk,call,lett,spn,trn,pgs,pg,pB,hg,hC,em,ed,w1,w2,w3,k0,k1,k2,km,hne,hlen]
/-- The parts that the reference reads of leaf i. -/
theorem reads (L:List Lf) (i:Nat) (hi:i < L.length) :
    IntKind.i64.wrap ((lists L).c.getD i 0 - (lists L).a.getD i 0)=pB (!(lf L i).fx) - pB (lf L i).fx ∧
    IntKind.i64.wrap ((lists L).d.getD i 0 - (lists L).b.getD i 0)=0 ∧
    IntKind.i64.wrap ((lists L).e.getD i 0 - (lists L).a.getD i 0)=0 ∧
    IntKind.i64.wrap ((lists L).f.getD i 0 - (lists L).b.getD i 0)=pB (!(lf L i).fy) - pB (lf L i).fy:=by
  have hget:L[i]? = some (lf L i):=by
    unfold lf
    rw [List.getElem?_eq_getElem hi]; rfl
  have ga:(L.map Lf.ax).getD i 0=(lf L i).x+pB (lf L i).fx:=getD_map L Lf.ax i _ hget
  have gb:(L.map Lf.ay).getD i 0=(lf L i).y+pB (lf L i).fy:=getD_map L Lf.ay i _ hget
  have gc:(L.map Lf.bx).getD i 0=(lf L i).x+pB (!(lf L i).fx):=getD_map L Lf.bx i _ hget
  have gf:(L.map Lf.cy).getD i 0=(lf L i).y+pB (!(lf L i).fy):=getD_map L Lf.cy i _ hget
  have hp:∀ b,0≤pB b∧pB b≤1:=by intro b; cases b <;> simp [pB]
  have p1:=hp (lf L i).fx
  have p2:=hp (lf L i).fy
  have p3:=hp (!(lf L i).fx)
  have p4:=hp (!(lf L i).fy)
  simp only [lists,ga,gb,gc,gf]
  refine ⟨?_,?_,?_,?_⟩
  · rw [wrap_id (by omega)]; omega
  · rw [wrap_id (by omega)]; omega
  · rw [wrap_id (by omega)]; omega
  · rw [wrap_id (by omega)]; omega
theorem front_eq (fx fy:Bool):decide (IntKind.i64.wrap (IntKind.i64.wrap ((pB (!fx) - pB fx) * (pB (!fy) - pB fy)) - IntKind.i64.wrap ((0:Int) * 0)) > 0)=(fx == fy):=by
  cases fx <;> cases fy <;> rfl
theorem ref3_Read_L0_eq {F:Nat} (hF:70≤F) (a0:S_FoldScheme) {C:Nat} (hC:a0.f0=C) (hC8:1≤C∧C≤8) (L:List Lf) (hl:L.length≤1000) (side:Int) (hs:0≤side∧side≤3) (x1 x2 x3 x4 x5:Int) (g:List Int) :
    ∀ (B A:List Nat) (n:Nat) (acc:List S_FoldPage),B.length < n→(∀ i∈B,i < L.length)→acc.length+2 * B.length≤10000→A.length+B.length≤10000 →
      ref3_Read_L0 F a0 (spn side) ((A++B).map (fun j:Nat=>(j:Int)),(lists L).a,(lists L).b,(lists L).c,(lists L).d,(lists L).e,(lists L).f,g,x1,x2,x3,x4,x5) n acc A.length=some (acc++B.flatMap fun i=>pgs C (trn side) (leafOf C L i)):=by
  intro B
  induction B with
  | nil =>
    intro A n acc hn _ _ _
    obtain ⟨n,rfl⟩:∃ k,n=k+1:=⟨n - 1,by omega⟩
    have hd:decide ((A.length:Int) < (((A++([]:List Nat)).map (fun j:Nat=>(j:Int))).length:Int))=false:=by simp
    rw [ref3_Read_L0]
    simp only [hd,cond_false]
    simp
  | cons i B ih =>
    intro A n acc hn hx ho hlA
    obtain ⟨n,rfl⟩:∃ k,n=k+1:=⟨n - 1,by omega⟩
    simp only [List.length_cons] at hn ho hlA
    have hd:decide ((A.length:Int) < (((A++i :: B).map (fun j:Nat=>(j:Int))).length:Int))=true:=by simp; omega
    have hw:IntKind.i64.wrap ((A.length:Int)+1)=((A.length+1:Nat):Int):=by rw [wrap_id (by omega)]; omega
    have hg:((A++i :: B).map (fun j:Nat=>(j:Int))).getD A.length 0=(i:Int):=by
      rw [List.getD_eq_getElem?_getD,List.getElem?_map,List.getElem?_append_right (Nat.le_refl _)]
      simp
    have hi:=hx i (by simp)
    obtain ⟨r1,r2,r3,r4⟩:=reads L i hi
    have hll:(lists L).a.length=L.length∧(lists L).b.length=L.length∧(lists L).c.length=L.length∧(lists L).d.length=L.length∧(lists L).e.length=L.length∧(lists L).f.length=L.length:=by simp [lists]
    obtain ⟨h1,h2,h3,h4,h5,h6⟩:=hll
    have hI:=ih (A++[i]) n (acc++pgs C (trn side) (leafOf C L i)) (by omega) (fun y hy=>hx y (by simp [hy])) (by simp [pgs]; omega) (by simp; omega)
    simp only [List.append_assoc,List.singleton_append,List.length_append,List.length_singleton] at hI
    rw [ref3_Read_L0]
    simp only [hd,cond_true,Int.toNat_natCast,hg,lett_eq,hw,h1,h2,h3,h4,h5,h6]
    simp only [chk_pos (show (0:Int)≤(i:Int)∧(i:Int) < (L.length:Int) from by omega)]
    rw [chk_pos (by simp; omega)]
    simp only [r1,r2,r3,r4,front_eq]
    rw [ref3_Read_L2_eq F a0 hC hC8 _ (A.length:Int) i (by omega) (by simp) side hs (lf L i).fx (lf L i).fy acc (by omega) F (by omega)]
    rw [call_some]
    have e:(⟨((i % C:Nat):Int),((i / C:Nat):Int),(lf L i).fx,(lf L i).fy⟩:S_FoldLeaf)=leafOf C L i:=rfl
    rw [e,hI]
    simp
/-- The side of the last fold. -/
def lastSide (a0:S_FoldScheme):Int:=if a0.f2.length=0 then 0 else (a0.f2.getD (a0.f2.length - 1) (S_FoldStep.mk 0 0 false)).f0
theorem lastSide_le (a0:S_FoldScheme) (h:∀ j:Nat,j < a0.f2.length→0≤(a0.f2.getD j (S_FoldStep.mk 0 0 false)).f0∧(a0.f2.getD j (S_FoldStep.mk 0 0 false)).f0≤3):0≤lastSide a0∧lastSide a0≤3:=by
  unfold lastSide
  split
  · omega
  · exact h _ (by omega)
theorem last_wrap (a0:S_FoldScheme) (hl:a0.f2.length≤8) (h0:a0.f2.length≠0):IntKind.i64.wrap ((a0.f2.length:Int) - 1)=((a0.f2.length - 1:Nat):Int):=by
  rw [wrap_id (by omega)]; omega
theorem ref3_spine_eq (F:Nat) (a0:S_FoldScheme) (hl:a0.f2.length≤8):ref3_spine F a0=some (spn (lastSide a0)):=by
  unfold ref3_spine lastSide
  by_cases h0:a0.f2.length=0
  · rw [if_pos h0,h0]
    rfl
  · have hb:(((a0.f2.length:Nat):Int) == 0)=false:=beq_false_of_ne (by omega)
    rw [hb,if_neg h0,last_wrap a0 hl h0]
    simp only [cond_false,Int.toNat_natCast]
    rw [chk_pos (by omega)]
    simp only [lett_eq]
    generalize (a0.f2.getD (a0.f2.length - 1) (S_FoldStep.mk 0 0 false)).f0=x
    unfold spn
    by_cases x0:x=0
    · simp [x0]
    · by_cases x1:x=1
      · simp [x1]
      · by_cases x2:x=2
        · simp [x2]
        · simp [x0,x1,x2,beq_false_of_ne x0,beq_false_of_ne x1,beq_false_of_ne x2]
theorem fold_folded_side (a0:S_FoldScheme) (hl:a0.f2.length≤8) :
    (bif (decide ((a0.f2.length:Int) > (0:Int))) then
          chk (0≤(IntKind.i64.wrap ((a0.f2.length:Int) - (1:Int)))∧(IntKind.i64.wrap ((a0.f2.length:Int) - (1:Int))) < a0.f2.length) <|
          lett ((a0.f2.getD (IntKind.i64.wrap ((a0.f2.length:Int) - (1:Int))).toNat (S_FoldStep.mk 0 0 false)).f0) fun z1 =>
          some z1
        else
          some (0:Int))=some (lastSide a0):=by
  unfold lastSide
  by_cases h0:a0.f2.length=0
  · have hb:decide ((a0.f2.length:Int) > 0)=false:=decide_eq_false (by omega)
    rw [hb,if_pos h0]
    rfl
  · have hb:decide ((a0.f2.length:Int) > 0)=true:=decide_eq_true (by omega)
    rw [hb,if_neg h0]
    simp only [last_wrap a0 hl h0,cond_true,Int.toNat_natCast]
    rw [chk_pos (by omega)]
    rfl
theorem fold_folded_err (F:Nat) (a0:S_FoldScheme) {e:Int} (he:e≠0) (h:fold_after F a0 (a0.f2.length:Int)=some (⟨0,0,[]⟩,e)):fold_folded F a0=some ([],0,e):=by
  have hne:(e != (0:Int))=true:=by simpa using he
  unfold fold_folded
  rw [h,call_some]
  simp only [hne,cond_true]
theorem fold_folded_ok' (F:Nat) (a0:S_FoldScheme) (hl:a0.f2.length≤8) {cols rows:Nat} {G:Nat→Nat→List S_FoldLeaf} (h:fold_after F a0 (a0.f2.length:Int)=some (mk cols rows G,0)) :
    fold_folded F a0=if cols=1∧rows=1 then some (G 0 0,lastSide a0,0) else some ([],0,9):=by
  unfold fold_folded
  rw [h,call_some]
  simp only
  rw [show ((0:Int) != 0)=false from rfl,cond_false]
  have e1:(mk cols rows G).f0=cols:=rfl
  have e2:(mk cols rows G).f1=rows:=rfl
  rw [e1,e2]
  by_cases hcr:cols=1∧rows=1
  · obtain ⟨rfl,rfl⟩:=hcr
    rw [if_pos ⟨rfl,rfl⟩,fold_folded_side a0 hl]
    rfl
  · rw [if_neg hcr]
    have:(bif ((cols:Int) != 1) then true else ((rows:Int) != 1))=true:=by
      rw [orB]
      simp
      omega
    rw [this,cond_true]
/-- What Read and Pages find: an error,or the leaves of the one pile. -/
theorem found {F:Nat} (hF:1000≤F) (a0:S_FoldScheme):(∃ e:Int,e≠0∧(fold_Check F a0=some e∨fold_Check F a0=some 0)∧fold_folded F a0=some ([],0,e)∧ref3_Read F a0=some ([],e)) ∨
    (∃ (C R N:Nat) (L:List Lf) (I:List Nat) (X0 Y0 p:Int) (q:Nat) (G:Nat→Nat→List S_FoldLeaf),a0.f0=C∧a0.f1=R∧(1≤C∧C≤8)∧(1≤R∧R≤8)∧N=R * C∧fold_Check F a0=some 0∧a0.f2.length≤8∧(0≤lastSide a0∧lastSide a0≤3)∧Inv C N 1 1 G L X0 Y0 p q∧p≤600000∧I.length≤256∧Pl C L I X0 Y0 (I.map (leafOf C L)) ∧
      fold_folded F a0=some (I.map (leafOf C L),lastSide a0,0)∧ref3_FoldError F a0=some 0∧ref3_Folded F a0 (a0.f2.length:Int)=some (s47 (shT L X0 Y0 (X0+1) (Y0+1) C)) ∧
      ref3_Sheet_At F 0 0 (lists L).a (lists L).b (lists L).c (lists L).d (lists L).e (lists L).f (lists L).g X0 Y0 (X0+1) (Y0+1) C=some (I.map (fun j:Nat=>(j:Int)),(lists L).a,(lists L).b,(lists L).c,(lists L).d,(lists L).e,(lists L).f,(lists L).g,X0,Y0,X0+1,Y0+1,(C:Int))):=by
  obtain ⟨e,h11,h12,herr,hok⟩:=both (F:=F) (by omega) a0
  by_cases he:e=0
  · subst he
    obtain ⟨hl8,C,R,hC,hR,hC8,hR8,hout,hside,hall⟩:=hok rfl
    obtain ⟨t,u,h35,h18,hrel⟩:=hall a0.f2.length (Nat.le_refl _)
    obtain ⟨cols,rows,G,L,X0,Y0,rfl,rfl,inv⟩:=hrel
    have hpw:=pow_le (k:=a0.f2.length) hl8
    have hbX:=inv.bX
    have hbY:=inv.bY
    have hcc:=inv.hc
    have hrr:=inv.hr
    have h25:=fold_folded_ok' F a0 hl8 h35
    by_cases hcr:cols=1∧rows=1
    · obtain ⟨rfl,rfl⟩:=hcr
      rw [if_pos ⟨rfl,rfl⟩] at h25
      obtain ⟨I,_,hp⟩:=inv.pile 0 0 (by omega) (by omega)
      have hlg:=inv.bG 0 0 (by omega) (by omega)
      have hIl:I.length≤256:=by
        have:=congrArg List.length hp.g
        simp at this
        omega
      have h19:=ref3_Sheet_At_eq (F:=F) (by omega) inv hpw.1 0 0 (by omega) (by omega) (X0+1) (Y0+1) C hp
      refine .inr ⟨C,R,R * C,L,I,X0,Y0,_,_,G,hC,hR,hC8,hR8,rfl,h11,hl8,lastSide_le a0 hside,inv,hpw.1,hIl,⟨rfl,hp.srt,?_⟩,by rw [h25,hp.g],h12,h18,h19⟩
      intro i
      have:=hp.mem i
      simpa using this
    · rw [if_neg hcr] at h25
      refine .inl ⟨9,by omega,.inr h11,h25,?_⟩
      unfold ref3_Read
      rw [h12,call_some]
      rw [show ((0:Int) != 0)=false from rfl,cond_false,h18,call_some]
      have w1:IntKind.i64.wrap (X0+cols - X0)=cols:=by rw [wrap_id (by omega)]; omega
      have w2:IntKind.i64.wrap (Y0+rows - Y0)=rows:=by rw [wrap_id (by omega)]; omega
      simp only [s47,shT,w1,w2,lett_eq]
      have:(bif ((cols:Int) != 1) then true else ((rows:Int) != 1))=true:=by
        rw [orB]
        simp
        omega
      rw [this,cond_true]
  · have h35:=herr he (a0.f2.length:Int)
    have hne:(e != (0:Int))=true:=by simpa using he
    refine .inl ⟨e,he,.inl h11,fold_folded_err F a0 he h35,?_⟩
    unfold ref3_Read
    rw [h12,call_some]
    simp only [hne,cond_true]
theorem Inv.bd {C N cols rows:Nat} {G:Nat→Nat→List S_FoldLeaf} {L:List Lf} {X0 Y0 p:Int} {q:Nat} (inv:Inv C N cols rows G L X0 Y0 p q) (hp:p≤600000):∀ l∈L,Bd 1000000 l:=by
  intro l hl
  have h1:=inv.box l hl
  have h2:=inv.bh l hl
  have h3:=inv.bX
  have h4:=inv.bY
  have h5:=inv.hc
  have h6:=inv.hr
  exact ⟨by omega,by omega,by omega⟩
theorem trn_le {side:Int}:0≤trn side∧trn side≤3:=by
  unfold trn
  repeat' split
  all_goals omega
theorem fold_Pages_err {F:Nat} (a0:S_FoldScheme) {e:Int} (he:e≠0) (h25:fold_folded F a0=some ([],0,e)):fold_Pages F a0=some ([],e):=by
  have hne:(e != (0:Int))=true:=by simpa using he
  unfold fold_Pages
  rw [h25,call_some]
  simp only [hne,cond_true]
theorem pgs_length (C turn:Int) (l:List S_FoldLeaf):(l.flatMap (pgs C turn)).length=2 * l.length:=by
  induction l with
  | nil=>rfl
  | cons x l ih=>simp [pgs] at ih ⊢; omega
/-- Pages and Read return the same pages,two for each leaf; or the same error. -/
theorem same {F:Nat} (hF:1000≤F) (a0:S_FoldScheme):(∃ e:Int,e≠0∧(fold_Check F a0=some e∨fold_Check F a0=some 0)∧fold_Pages F a0=some ([],e)∧ref3_Read F a0=some ([],e)) ∨
    (∃ (C R:Nat) (PG:List S_FoldPage),a0.f0=C∧a0.f1=R∧(1≤C∧C≤8)∧(1≤R∧R≤8)∧R * C≤32∧PG.length=2 * (R * C)∧fold_Check F a0=some 0∧fold_Pages F a0=some (PG,0)∧ref3_Read F a0=some (PG,0) ∧
      ∃ (L:List Lf) (I:List Nat) (turn:Int),PG=(I.map (leafOf C L)).flatMap (pgs C turn)∧I.Perm (List.range (R * C))∧0≤turn∧turn≤3):=by
  rcases found hF a0 with ⟨e,he,h11,h25,h9⟩ | ⟨C,R,N,L,I,X0,Y0,p,q,G,hC,hR,hC8,hR8,hNe,h11,hl8,hside,inv,hp,hIl,hpl,h25,h12',h18,h19⟩
  · exact .inl ⟨e,he,h11,fold_Pages_err a0 he h25,h9⟩
  · have hN:=inv.hN
    have hlen:=inv.len
    have hv:∀ i∈I,i < L.length:=by
      intro i hi
      obtain ⟨l,hl,_⟩:=(hpl.mem i).1 hi
      exact (List.getElem?_eq_some_iff.1 hl).1
    have hper:I.Perm (List.range N):=by
      have hnd:I.Nodup:=hpl.srt.imp (fun h e=>by subst e; omega)
      refine (List.perm_ext_iff_of_nodup hnd List.nodup_range).2 fun i=>?_
      rw [List.mem_range]
      constructor
      · intro hi
        have:=hv i hi
        omega
      · intro hi
        have hget:L[i]? = some L[i]:=List.getElem?_eq_getElem (by omega)
        refine (hpl.mem i).2 ⟨_,hget,?_⟩
        have:=inv.box _ (List.mem_of_getElem? hget)
        omega
    have hIN:I.length=N:=by rw [hper.length_eq,List.length_range]
    have e8:=fold_Pages_L0_eq F (trn (lastSide a0)) C trn_le (by omega) a0.f1 a0.f2 (lastSide a0) 0 (I.map (leafOf C L)) [] F [] (by simp; omega) (by
      intro x hx
      obtain ⟨i,hi,rfl⟩:=List.mem_map.1 hx
      have:=hv i hi
      have h2:i % C < C:=Nat.mod_lt _ (by omega)
      simp only [leafOf]
      omega) (by simp; omega) (by simp; omega)
    have h8:fold_Pages F a0=some ((I.map (leafOf C L)).flatMap (pgs C (trn (lastSide a0))),0):=by
      have ht:(([(0:Int),(2:Int),(1:Int),(3:Int)]).getD (lastSide a0).toNat 0)=trn (lastSide a0):=by
        rcases (by omega:lastSide a0=0∨lastSide a0=1∨lastSide a0=2∨lastSide a0=3) with h | h | h | h <;> rw [h] <;> rfl
      unfold fold_Pages
      rw [h25,call_some]
      simp only
      rw [show ((0:Int) != 0)=false from rfl,cond_false,chk_pos (by simp; omega),ht,hC]
      simp only [List.nil_append,List.length_nil] at e8
      rw [show (0:Int)=((0:Nat):Int) from rfl] at e8 ⊢
      rw [e8]
      rfl
    have h9:ref3_Read F a0=some ((I.map (leafOf C L)).flatMap (pgs C (trn (lastSide a0))),0):=by
      have e9:=ref3_Read_L0_eq (F:=F) (by omega) a0 hC hC8 L (by omega) (lastSide a0) hside X0 Y0 (X0+1) (Y0+1) C (lists L).g I [] F [] (by omega) hv (by simp; omega) (by simp; omega)
      have hbX:=inv.bX
      have hbY:=inv.bY
      have w1:IntKind.i64.wrap (X0+1 - X0)=1:=by rw [wrap_id (by omega)]; omega
      have w2:IntKind.i64.wrap (Y0+1 - Y0)=1:=by rw [wrap_id (by omega)]; omega
      unfold ref3_Read
      rw [h12',call_some]
      rw [show ((0:Int) != 0)=false from rfl,cond_false,h18,call_some,ref3_spine_eq F a0 hl8]
      simp only [s47,shT,w1,w2,lett_eq]
      rw [show (bif ((1:Int) != 1) then true else ((1:Int) != 1))=false from rfl,cond_false,call_some,h19,call_some]
      simp only [List.nil_append,List.length_nil,Int.natCast_zero] at e9
      rw [e9]
      simp [call,List.flatMap_map]
    refine .inr ⟨C,R,_,hC,hR,hC8,hR8,by omega,?_,h11,h8,h9,L,I,_,rfl,hNe ▸ hper,trn_le.1,trn_le.2⟩
    rw [pgs_length,List.length_map,hIN,hNe]
end Go.Vm.BinG
