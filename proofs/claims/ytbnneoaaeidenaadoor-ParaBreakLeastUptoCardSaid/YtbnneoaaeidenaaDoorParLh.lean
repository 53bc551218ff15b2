/-
  para.Break: its lines; the law.
-/
import Derived.Test.YtbnneoaaeidenaaDoorParLg
namespace Go.Vm.ParM
theorem gaps_ok (F:Nat) (y1:Int×Int) (v1:Int) (hy:y1.2≤4294967295):∀ (q j n:Nat) (v2:List Int),(j:Int)+(q:Int)=y1.2→q < n→v2.length≤j→∃ l,para_line_L0 F y1 v1 n v2 (j:Int)=some l
  | q,j,0,v2,_,h,_=>absurd h (Nat.not_lt_zero _)
  | 0,j,n+1,v2,h,_,_=>by
    refine ⟨v2,?_⟩
    unfold para_line_L0
    rw [decide_eq_false (by omega)]
    rfl
  | q+1,j,n+1,v2,h,hn,hv=>by
    unfold para_line_L0
    rw [decide_eq_true (by omega),cond_true,chk_pos (by omega),chk_pos (by omega),lett_eq,chk_pos (by simp; omega),wrap_succ (by omega)]
    exact gaps_ok F y1 v1 hy q (j+1) n _ (by omega) (by omega) (by simp; omega)
theorem line_ok (F:Nat) (hF:400≤F) {rs:List Part} (hw:OkW rs) {s:S_ParaShape} (hs:OkS s) (hl:rs.length≤12) {a b:Nat} (hab:a < b) (hb:b≤rs.length):∃ x,para_line F (rs.map toQ) (a:Int) (b:Int) s=some x∧x.f0=(a:Int)∧x.f1=(b:Int):=by
  obtain ⟨s1,s2,s3,s4,s5,s6,s7,s8,s9,s10⟩:=hs
  obtain ⟨m1,m2,m3,m4⟩:=meas_b hw s5 s6 hab (show b≤12 by omega)
  unfold para_line
  rw [fixed_eq F hF rs hw s hab hb (by omega),call_some,wrap_pred (by omega) (by omega),chk_in (show b - 1 < (rs.map toQ).length by rw [List.length_map]; omega)]
  generalize meas rs a b s.f4=m at *
  have hx:∀ p:Bool,∃ v,(bif p then lett (if IntKind.i64.wrap (m.2 * s.f1) < IntKind.i64.wrap (s.f0 - m.1) then IntKind.i64.wrap (m.2 * s.f1) else IntKind.i64.wrap (s.f0 - m.1)) fun z2=>some z2 else some (IntKind.i64.wrap (s.f0 - m.1)))=some v:=fun p=>by
    cases p
    · exact ⟨_,rfl⟩
    · exact ⟨_,rfl⟩
  obtain ⟨v,hv⟩:=hx ((b:Int) == ((rs.map toQ).length:Int))
  rw [hv,call_some]
  obtain ⟨g,hg⟩:∃ g:Nat,m.2=(g:Int):=⟨m.2.toNat,by omega⟩
  obtain ⟨l,hlo⟩:=gaps_ok F m v (by omega) g 0 F [] (by omega) (by omega) (by simp)
  rw [show ((0:Nat):Int)=0 from rfl] at hlo
  rw [hlo]
  exact ⟨_,rfl,rfl,rfl⟩
/-- The lines of a solution. -/
def Lines (i:Nat):List Nat→List S_ParaLine→Prop
  | [],[]=>True
  | k :: t,x :: l=>x.f0=(i:Int)∧x.f1=(k:Int)∧Lines k t l
  | _,_=>False
theorem lines_ok (F:Nat) (hF:400≤F) {rs:List Part} (hw:OkW rs) {s:S_ParaShape} (hs:OkS s) (hl:rs.length≤12) {v7 v8:List Int} (hv:InvT rs s rs.length v7 v8):∀ (t:List Nat) (d m:Nat) (r:Int) (v12:List S_ParaLine),d≤rs.length→optD (costOf rs s) rs.length d=some (r,t)→t.length < m→v12.length+t.length≤10000 →
    ∃ l,para_Break_L4 F s (rs.map toQ) v8 m v12 ((rs.length - d:Nat):Int)=some (v12++l)∧Lines (rs.length - d) t l
  | t,d,0,r,v12,_,_,h,_=>absurd h (Nat.not_lt_zero _)
  | t,0,m+1,r,v12,_,hopt,_,_=>by
    simp [optD,tab] at hopt
    obtain ⟨rfl,rfl⟩:=hopt
    refine ⟨[],?_,trivial⟩
    unfold para_Break_L4
    rw [List.length_map,Nat.sub_zero,dec_end,List.append_nil]
    rfl
  | t,d+1,m+1,r,v12,hd,hopt,hm,hlen=>by
    obtain ⟨j,t',r',hj,rfl,hnx⟩:=opt_next hd hopt
    have hh:v8.getD (rs.length - (d+1)) 0=((rs.length - d+j:Nat):Int):=hv.2.2.2 (d+1) (by omega) hd r _ t' hopt
    obtain ⟨x,hx1,hx2,hx3⟩:=line_ok F hF hw hs hl (show rs.length - (d+1) < rs.length - d+j by omega) (show rs.length - d+j≤rs.length by omega)
    simp only [List.length_cons] at hm hlen
    obtain ⟨l,hl1,hl2⟩:=lines_ok F hF hw hs hl hv t' (d - j) m r' (v12++[x]) (by omega) hnx (by omega) (by simp; omega)
    refine ⟨x :: l,?_,hx2,hx3,?_⟩
    · unfold para_Break_L4
      rw [List.length_map,dec_lt (by omega),cond_true,nat_toNat,chk_in (show rs.length - (d+1) < v8.length by rw [hv.2.1]; omega),hh,hx1,call_some,chk_pos (by simp; omega)]
      rw [show rs.length - d+j=rs.length - (d - j) by omega]
      rw [chk_in (show rs.length - (d+1) < v8.length by rw [hv.2.1]; omega),hl1,List.append_assoc]
      rfl
    · rw [show rs.length - d+j=rs.length - (d - j) by omega]
      exact hl2
theorem break_ok (F:Nat) (hF:400≤F) {a0:List S_ParaWord} {s:S_ParaShape} (hchk:para_Check F a0 s=some 0) (hflat:para_flat F a0=some ((recs 0 a0).map toQ)) (hw:OkW (recs 0 a0)) (hs:OkS s) (hl:(recs 0 a0).length≤12) :
    match optD (costOf (recs 0 a0) s) (recs 0 a0).length (recs 0 a0).length with
    | none=>para_Break F a0 s=some ([],0,8)
    | some (r,t)=>∃ l,para_Break F a0 s=some (l,r,0)∧Lines 0 t l:=by
  have hc:=costs_ok hw hs hl
  generalize hrs:recs 0 a0=rs at *
  have hinit:InvT rs s 0 (List.replicate (rs.length+1) 0) (List.replicate rs.length 0):=by
    refine ⟨by simp,by simp,fun j hj=>?_,fun e h1 h2=>by omega⟩
    obtain rfl:j=0:=by omega
    rw [List.getD_eq_getElem?_getD,List.getElem?_replicate,if_pos (by omega)]
    rfl
  obtain ⟨v7,v8,h1,h2⟩:=L0_ok F hF rs hw s (by omega) hc rs.length 0 F _ _ (by omega) (by omega) hinit
  have h0:v7.getD 0 0=encB (optD (costOf rs s) rs.length rs.length):=by
    have:=h2.2.2.1 0 (by omega)
    rwa [Nat.sub_self,Nat.zero_add,Nat.sub_zero] at this
  have hun:para_Break F a0 s=bif (decide (encB (optD (costOf rs s) rs.length rs.length) < 0)) then some ([],0,8) else call (para_Break_L4 F s (rs.map toQ) v8 F [] 0) fun v15=>chk (0≤(0:Int)∧(0:Int) < v7.length) (some (v15,encB (optD (costOf rs s) rs.length rs.length),0)):=by
    unfold para_Break
    rw [hchk,call_some]
    show call (para_flat F a0) _=_
    rw [hflat,call_some,List.length_map]
    have e1:IntKind.i64.wrap ((rs.length:Int)+1)=((rs.length+1:Nat):Int):=wrap_succ (by omega)
    have e2:IntKind.i64.wrap ((rs.length:Int) - 1)=(rs.length:Int) - 1:=wrap_id (by omega)
    rw [e1,e2,chk_pos (by omega),chk_pos (by omega),nat_toNat,nat_toNat,h1,call_some]
    have hp:(0:Int) < (v7.length:Int):=by rw [h2.1]; omega
    show chk (0≤(0:Int)∧(0:Int) < (v7.length:Int)) (bif decide (v7.getD 0 0 < 0) then some ([],0,8) else call (para_Break_L4 F s (rs.map toQ) v8 F [] 0) fun v15=>chk (0≤(0:Int)∧(0:Int) < (v7.length:Int)) (some (v15,v7.getD 0 0,0)))=_
    rw [chk_pos ⟨by omega,hp⟩,h0]
  have hso:=tab_ok hc rs.length (Nat.le_refl _) rs.length (Nat.le_refl _)
  match hopt:optD (costOf rs s) rs.length rs.length,hso with
  | none,_ =>
    rw [hopt] at hun
    rw [hun]
    rfl
  | some (r,t),hso =>
    obtain ⟨g1,g2,g3⟩:=hso r t rfl
    rw [hopt] at hun
    obtain ⟨l,hl1,hl2⟩:=lines_ok F hF hw hs hl h2 t rs.length F r [] (Nat.le_refl _) hopt (by omega) (by simp; omega)
    rw [Nat.sub_self,show ((0:Nat):Int)=0 from rfl,List.nil_append] at hl1
    rw [Nat.sub_self] at hl2
    refine ⟨l,?_,hl2⟩
    rw [hun,show decide (encB (some (r,t)) < 0)=false from decide_eq_false (show ¬ r < 0 by omega),cond_false,hl1,call_some,chk_pos ⟨by omega,by rw [h2.1]; omega⟩]
    rfl
theorem lines_len:∀ {i:Nat} {t:List Nat} {l:List S_ParaLine},Lines i t l→l.length=t.length
  | _,[],[],_=>rfl
  | _,k :: t,x :: l,h=>by simp [lines_len h.2.2]
theorem lines_at:∀ {i:Nat} {t:List Nat} {l:List S_ParaLine} (j:Nat),Lines i t l→j < t.length→(l.getD j (S_ParaLine.mk 0 0 false [])).f1=((t.getD j 0:Nat):Int)∧(l.getD j (S_ParaLine.mk 0 0 false [])).f0=(((i :: t).getD j 0:Nat):Int)
  | i,k :: t,x :: l,0,h,_=>⟨h.2.1,h.1⟩
  | i,k :: t,x :: l,j+1,h,hj=>lines_at j h.2.2 (by simpa using hj)
theorem cmp_ok (F:Nat) (c:Int) {t:List Nat} {l:List S_ParaLine} (h:Lines 0 t l) (ht:t.length≤300) (e:Int):∀ (q j n:Nat),j+q=t.length→q < n→law3_ParaBreakLeast_L0 F (l,c,e) (encC (some (c,t))) n (j:Int)=some (.go ())
  | q,j,0,_,h=>absurd h (Nat.not_lt_zero _)
  | 0,j,n+1,hj,_=>by
    unfold law3_ParaBreakLeast_L0
    rw [lines_len h,show j=t.length by omega,dec_end]
    rfl
  | q+1,j,n+1,hj,hn=>by
    have hjt:j < t.length:=by omega
    obtain ⟨g1,g2⟩:=lines_at j h hjt
    have hends:(encC (some (c,t))).2.1=t.map fun (k:Nat)=>(k:Int):=rfl
    have hgd:∀ p:Nat,(t.map fun (k:Nat)=>(k:Int)).getD p 0=((t.getD p 0:Nat):Int):=fun p=>by
      rw [List.getD_eq_getElem?_getD,List.getElem?_map,List.getD_eq_getElem?_getD]
      cases t[p]? <;> rfl
    have ih:=cmp_ok F c h ht e q (j+1) n (by omega) (by omega)
    rw [← ih]
    conv=>lhs; unfold law3_ParaBreakLeast_L0
    rw [lines_len h,dec_lt hjt,cond_true,chk_in hjt,hends,chk_in (show j < (t.map fun (k:Nat)=>(k:Int)).length by rw [List.length_map]; exact hjt)]
    rw [chk_pos (fun hh=>by
      have h1:(j:Int) > 0:=by
        simp only [Bool.and_eq_true,beq_iff_eq,decide_eq_true_eq] at hh
        exact hh.1
      rw [wrap_id (by omega),List.length_map]
      omega)]
    simp only [nat_toNat]
    rw [g1,g2,hgd j,bne_self_eq_false,lett_eq,lett_eq,lett_eq,cond_false,wrap_succ (by omega),pos_eq,first_eq]
    cases j with
    | zero =>
      rfl
    | succ j =>
      have e1:IntKind.i64.wrap (((j+1:Nat):Int) - 1)=(j:Int):=by rw [wrap_id (by omega)]; omega
      rw [e1,nat_toNat,hgd j]
      show (bif (bif (bif (!(j+1 == 0)) then (((t.getD j 0:Nat):Int) != ((t.getD j 0:Nat):Int)) else false) then true else (bif (j+1 == 0) then (((t.getD j 0:Nat):Int) != 0) else false)) then _ else _)=_
      rw [bne_self_eq_false]
      have e2:(j+1 == 0)=false:=by simp
      rw [e2]
      rfl
theorem scan_ne:∀ (l:List S_ParaWord) (m e:Int),scanW l m=some e→e≠0
  | [],_,_,h=>by cases h
  | w :: r,m,e,h=>by
    unfold scanW at h
    split at h
    · cases h; decide
    split at h
    · cases h; decide
    split at h
    · cases h; decide
    split at h
    · cases h; decide
    exact scan_ne r _ e h
/-- THE LAW OF ROW 24. -/
theorem break_law (a0:List S_ParaWord) (s:S_ParaShape) (hs:∀ w∈a0,w.f0.length≤2097152∧w.f1.length≤2097152):∃ F,law3_ParaBreakLeast F a0 s=some true:=by
  obtain ⟨b0,hb0⟩:∃ b0,b0=a0.take 8:=⟨_,rfl⟩
  refine ⟨fuelW b0+400+40,?_⟩
  have hmem:∀ w∈b0,w∈a0:=fun w hw=>by rw [hb0] at hw; exact List.mem_of_mem_take hw
  have hcut:(bif (decide ((a0.length:Int) > 8)) then chk (0≤(0:Int)∧(0:Int)≤8∧(8:Int)≤(a0.length:Int)) (some ((a0.drop (0:Int).toNat).take ((8:Int).toNat - (0:Int).toNat))) else some a0)=some b0:=by
    by_cases h:(a0.length:Int) > 8
    · rw [decide_eq_true h,cond_true,chk_pos (by omega),hb0]
      rfl
    · rw [decide_eq_false h,cond_false,hb0,List.take_of_length_le (by omega)]
  have hb8:b0.length≤8:=by rw [hb0,List.length_take]; omega
  generalize hFd:fuelW b0+400=G
  have hG:400≤G+40:=by omega
  obtain ⟨c1,c2⟩:=check_both (G+40) b0 s (fun w hw=>by have:=hs w (hmem w hw); exact ⟨by omega,by omega⟩) (by omega)
  unfold law3_ParaBreakLeast
  rw [fact,call_some,Bool.not_true,cond_false,hcut,call_some,c2,call_some]
  by_cases h0:errW b0 s=0
  · rw [h0] at c1
    rw [h0,show ((0:Int) != 0)=false from rfl,cond_false]
    have herr:scanW b0 0=none∧shapeErr s=0:=by
      unfold errW at h0
      rw [decide_eq_false (by omega),cond_false] at h0
      cases h:scanW b0 0 with
      | none=>rw [h] at h0; exact ⟨rfl,h0⟩
      | some e =>
        rw [h] at h0
        have h0':e=0:=h0
        exfalso
        exact scan_ne _ _ _ h h0'
    have hS:=shape_good herr.2
    obtain ⟨g1,g2⟩:=scan_good b0 0 (by omega) (fun w hw=>(hs w (hmem w hw)).1) herr.1
    obtain ⟨f1,f2⟩:=flat_eq (G+40) hG b0 (fun x hx=>⟨(g1 x hx).1,by have:=(g1 x hx).2.1; omega⟩) hb8
    have hW:=recs_ok b0 0 fun w hw=>⟨(g1 w hw).2.2.1,(g1 w hw).2.2.2⟩
    have hA:=adj_recs b0 0 fun w hw=>(g1 w hw).1
    rw [f2,call_some,List.length_map]
    by_cases h12:((recs 0 b0).length:Int) > 12
    · rw [decide_eq_true h12]
      rfl
    · rw [decide_eq_false h12,cond_false]
      have hl:(recs 0 b0).length≤12:=by omega
      have hC:=costs_ok hW hS hl
      have hch:=cheap_ok (G+40) hG (recs 0 b0) hA s (by omega) hC (G+40) (recs 0 b0).length (Nat.le_refl _) (by omega)
      rw [Nat.sub_self] at hch
      have hch':ref3_Cheapest (G+40) ((recs 0 b0).map toP) 0 s=_:=hch
      rw [hch']
      have hbr:=break_ok (G+40) hG c1 f1 hW hS hl
      have hso:=tab_ok hC (recs 0 b0).length (Nat.le_refl _) (recs 0 b0).length (Nat.le_refl _)
      match hopt:optD (costOf (recs 0 b0) s) (recs 0 b0).length (recs 0 b0).length,hbr,hso with
      | none,hbr,_ =>
        rw [hbr]
        rfl
      | some (r,t),⟨l,hb1,hb2⟩,hso =>
        obtain ⟨q1,q2,q3⟩:=hso r t rfl
        rw [hb1,call_some,call_some]
        have hlen:((l.length:Int) != ((t.map fun (k:Nat)=>(k:Int)).length:Int))=false:=by rw [List.length_map,lines_len hb2]; simp
        show (bif (!true) then _ else lett (bif (bif ((0:Int) != 0) then true else (r != r)) then true else ((l.length:Int) != ((t.map fun (k:Nat)=>(k:Int)).length:Int))) fun z5=>bif z5 then some false else callE (law3_ParaBreakLeast_L0 (G+40) (l,r,0) (encC (some (r,t))) (G+40) 0) (fun e=>some e) fun _=>some true)=some true
        rw [hlen,lett_eq]
        simp only [bne_self_eq_false,cond_false,Bool.not_true]
        have hcm:=cmp_ok (G+40) r hb2 (by omega) 0 t.length 0 (G+40) (by omega) (by omega)
        rw [show ((0:Nat):Int)=0 from rfl] at hcm
        rw [hcm]
        rfl
  · have:(errW b0 s != 0)=true:=by simp [h0]
    rw [this]
    rfl
end Go.Vm.ParM
