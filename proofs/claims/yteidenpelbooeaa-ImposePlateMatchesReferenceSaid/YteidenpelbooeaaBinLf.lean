/-
  FOLD,PLAIN,part 6: layouts; the leaves at a place.
-/
import Derived.Test.YteidenpelbooeaaBinLe
namespace Go.Vm.BinG
def s47 (u:T12):S_ref3_Sheet:=⟨u.1,u.2.1,u.2.2.1,u.2.2.2.1,u.2.2.2.2.1,u.2.2.2.2.2.1,u.2.2.2.2.2.2.1,u.2.2.2.2.2.2.2.1,u.2.2.2.2.2.2.2.2.1,u.2.2.2.2.2.2.2.2.2.1,u.2.2.2.2.2.2.2.2.2.2.1,u.2.2.2.2.2.2.2.2.2.2.2⟩
theorem orB {a b:Bool}:(bif a then true else b)=(a || b):=by cases a <;> rfl
theorem both {F:Nat} (hF:70≤F) (a0:S_FoldScheme):∃ e:Int,fold_Check F a0=some e∧ref3_FoldError F a0=some e ∧
    (e≠0→∀ a1,fold_after F a0 a1=some (⟨0,0,[]⟩,e)) ∧
    (e=0→a0.f2.length≤8∧∃ C R:Nat,a0.f0=C∧a0.f1=R∧(1≤C∧C≤8)∧(1≤R∧R≤8) ∧
      (∀ a1:Int,(a1 < 0∨a1 > a0.f2.length)→fold_after F a0 a1=some (⟨0,0,[]⟩,3)) ∧
      (∀ j:Nat,j < a0.f2.length→0≤(a0.f2.getD j (S_FoldStep.mk 0 0 false)).f0∧(a0.f2.getD j (S_FoldStep.mk 0 0 false)).f0≤3) ∧
      ∀ a1:Nat,a1≤a0.f2.length→∃ t u,fold_after F a0 a1=some (t,0)∧ref3_Folded F a0 a1=some (s47 u)∧Rel C (R * C) a1 t u):=by
  have err:∀ e:Int,e≠0→fold_Check F a0=some e→∀ a1,fold_after F a0 a1=some (⟨0,0,[]⟩,e):=by
    intro e he h a1
    have hb:(e != (0:Int))=true:=by simpa using he
    unfold fold_after
    rw [h,call_some]
    simp only [hb,cond_true]
  have v11:fold_Check F a0=bif (decide (a0.f0 < 1) || decide (a0.f0 > 8) || decide (a0.f1 < 1) || decide (a0.f1 > 8)) then some 3 else
      bif (decide (IntKind.i64.wrap (a0.f0 * a0.f1) > 32) || decide ((a0.f2.length:Int) > 8)) then some 2 else
      call (fold_flat F a0) fun y3=>callE (fold_Check_L0 F a0 F y3.f0 y3.f1 y3.f2 (0:Int)) (fun e=>some e) fun _=>some 0:=by
    unfold fold_Check
    simp only [lett_eq,orB]
  have v12:ref3_FoldError F a0=bif (decide (a0.f0 < 1) || decide (a0.f1 < 1) || decide (a0.f0 > 8) || decide (a0.f1 > 8)) then some 3 else
      bif (decide (IntKind.i64.wrap (a0.f0 * a0.f1) > 32) || decide ((a0.f2.length:Int) > 8)) then some 2 else
      call (ref3_Laid F a0) fun y2=>callE (L12 F a0 F (y2.f0,y2.f1,y2.f2,y2.f3,y2.f4,y2.f5,y2.f6,y2.f7,y2.f8,y2.f9,y2.f10,y2.f11) (0:Int)) (fun e=>some e) fun _=>some 0:=by
    unfold ref3_FoldError
    simp only [lett_eq,orB]
    rfl
  by_cases hrg:1≤a0.f0∧a0.f0≤8∧1≤a0.f1∧a0.f1≤8
  · have d1:(decide (a0.f0 < 1) || decide (a0.f0 > 8) || decide (a0.f1 < 1) || decide (a0.f1 > 8))=false:=by simp; omega
    have d2:(decide (a0.f0 < 1) || decide (a0.f1 < 1) || decide (a0.f0 > 8) || decide (a0.f1 > 8))=false:=by simp; omega
    obtain ⟨C,hC⟩:=Int.eq_ofNat_of_zero_le (show 0≤a0.f0 by omega)
    obtain ⟨R,hR⟩:=Int.eq_ofNat_of_zero_le (show 0≤a0.f1 by omega)
    have hC8:1≤C∧C≤8:=by omega
    have hR8:1≤R∧R≤8:=by omega
    have hm64:R * C≤8 * 8:=Nat.mul_le_mul hR8.2 hC8.2
    have hmul:IntKind.i64.wrap (a0.f0 * a0.f1)=((R * C:Nat):Int):=by
      have:a0.f0 * a0.f1=((R * C:Nat):Int):=by rw [hC,hR,Int.mul_comm]; simp
      rw [this,wrap_id (by omega)]
    rw [d1] at v11
    rw [d2] at v12
    rw [hmul] at v11 v12
    simp only [cond_false] at v11 v12
    by_cases hlg:R * C≤32∧a0.f2.length≤8
    · have d3:(decide (((R * C:Nat):Int) > 32) || decide ((a0.f2.length:Int) > 8))=false:=by
        have e1:decide (((R * C:Nat):Int) > 32)=false:=by simp only [decide_eq_false_iff_not]; omega
        have e2:decide ((a0.f2.length:Int) > 8)=false:=by simp only [decide_eq_false_iff_not]; omega
        rw [e1,e2]; rfl
      rw [d3] at v11 v12
      simp only [cond_false] at v11 v12
      have h28:=fold_flat_eq (F:=F) (by omega) a0 hC hC8.2 hR hR8.2
      have h31:=ref3_Laid_eq (F:=F) (by omega) a0 hC hC8.2 hR hR8.2
      rw [h28,call_some] at v11
      rw [h31,call_some] at v12
      have rel0:Rel C (R * C) 0 (mk C R G0) (shT (grid C R lf0) 0 0 (0+(C:Nat)) (0+(R:Nat)) C):=⟨C,R,G0,grid C R lf0,0,0,rfl,rfl,by simpa using inv0 hC8 hR8 hlg.1⟩
      obtain ⟨o,o1,o2,o3,o4⟩:=loops hF a0 hlg.2 a0.f2.length 0 F F _ _ (by omega) (by omega) (by omega) rel0
      have o2':L12 F a0 F ((sh (grid C R lf0) 0 0 C R C).f0,(sh (grid C R lf0) 0 0 C R C).f1,(sh (grid C R lf0) 0 0 C R C).f2,(sh (grid C R lf0) 0 0 C R C).f3,(sh (grid C R lf0) 0 0 C R C).f4,(sh (grid C R lf0) 0 0 C R C).f5,(sh (grid C R lf0) 0 0 C R C).f6,(sh (grid C R lf0) 0 0 C R C).f7,(sh (grid C R lf0) 0 0 C R C).f8,(sh (grid C R lf0) 0 0 C R C).f9,(sh (grid C R lf0) 0 0 C R C).f10,(sh (grid C R lf0) 0 0 C R C).f11) 0=some o:=by
        rw [Int.zero_add,Int.zero_add] at o2
        exact o2
      rw [show fold_Check_L0 F a0 F (mk C R G0).f0 (mk C R G0).f1 (mk C R G0).f2 0=some o from o1] at v11
      rw [o2'] at v12
      cases o with
      | esc e =>
        have he:=o3 e rfl
        exact ⟨e,v11,v12,fun _=>err e he v11,fun h=>absurd h he⟩
      | go x =>
        refine ⟨0,v11,v12,fun h=>absurd rfl h,fun _=>⟨hlg.2,C,R,hC,hR,hC8,hR8,fun a1 ha=>?_,fun j hj=>(o4 rfl).1 j (by omega) hj,fun a1 ha=>?_⟩⟩
        · have e0:(bif decide (a1 < 0) then true else decide (a1 > (a0.f2.length:Int)))=true:=by
            rw [orB]; simp; omega
          unfold fold_after
          rw [show fold_Check F a0=some 0 from v11,call_some]
          simp only [e0,cond_true]
          rfl
        · obtain ⟨t,u,h1,h2,h3⟩:=(o4 rfl).2 a1 (by omega) ha F F (by omega) (by omega)
          refine ⟨t,u,?_,?_,h3⟩
          · have e0:(bif decide ((a1:Int) < 0) then true else decide ((a1:Int) > (a0.f2.length:Int)))=false:=by
              rw [orB]; simp; omega
            unfold fold_after
            rw [show fold_Check F a0=some 0 from v11,call_some]
            simp only [e0,cond_false]
            rw [show ((0:Int) != 0)=false from rfl,cond_false,h28,call_some,chk_pos (by omega)]
            rw [show fold_after_L0 F a0 a1 F (mk C R G0).f0 (mk C R G0).f1 (mk C R G0).f2 0=some (t.f0,t.f1,t.f2) from h1]
            rfl
          · unfold ref3_Folded
            rw [h31,call_some,chk_pos (by omega)]
            have:L18 F a0 a1 F (shT (grid C R lf0) 0 0 C R C) (0:Int)=some u:=by
              rw [Int.zero_add,Int.zero_add] at h2
              exact h2
            rw [show ref3_Folded_L0 F a0 a1 F (sh (grid C R lf0) 0 0 C R C).f0 (sh (grid C R lf0) 0 0 C R C).f1 (sh (grid C R lf0) 0 0 C R C).f2 (sh (grid C R lf0) 0 0 C R C).f3 (sh (grid C R lf0) 0 0 C R C).f4 (sh (grid C R lf0) 0 0 C R C).f5 (sh (grid C R lf0) 0 0 C R C).f6 (sh (grid C R lf0) 0 0 C R C).f7 (sh (grid C R lf0) 0 0 C R C).f8 (sh (grid C R lf0) 0 0 C R C).f9 (sh (grid C R lf0) 0 0 C R C).f10 (sh (grid C R lf0) 0 0 C R C).f11 0=some u from this]
            rfl
    · have d3:(decide (((R * C:Nat):Int) > 32) || decide ((a0.f2.length:Int) > 8))=true:=by
        by_cases h:R * C≤32
        · have:decide ((a0.f2.length:Int) > 8)=true:=by simp only [decide_eq_true_iff]; omega
          rw [this,Bool.or_true]
        · have:decide (((R * C:Nat):Int) > 32)=true:=by simp only [decide_eq_true_iff]; omega
          rw [this,Bool.true_or]
      rw [d3] at v11 v12
      exact ⟨2,v11,v12,fun _=>err 2 (by omega) v11,fun h=>absurd h (by omega)⟩
  · have d1:(decide (a0.f0 < 1) || decide (a0.f0 > 8) || decide (a0.f1 < 1) || decide (a0.f1 > 8))=true:=by simp; omega
    have d2:(decide (a0.f0 < 1) || decide (a0.f1 < 1) || decide (a0.f0 > 8) || decide (a0.f1 > 8))=true:=by simp; omega
    rw [d1] at v11
    rw [d2] at v12
    exact ⟨3,v11,v12,fun _=>err 3 (by omega) v11,fun h=>absurd h (by omega)⟩
/-! ### The leaves at a place -/
def sel (L:List Lf) (X Y:Int) (i:Nat):Bool:=(lf L i).x == X && (lf L i).y == Y
theorem ref3_Sheet_At_L0_eq (F:Nat) (a b:Int) (L:List Lf) (hlen:L.length≤1000) (hL:∀ l∈L,Bd 1000000 l) (X0 Y0 X1 Y1 C:Int) (hX : -1000000≤X0∧X0≤1000000) (hY : -1000000≤Y0∧Y0≤1000000) (ha : -1000000≤a∧a≤1000000) (hb : -1000000≤b∧b≤1000000) :
    ∀ (m i n:Nat) (acc:List Int),i+m=L.length→m < n→acc.length+m≤100000 →
      ref3_Sheet_At_L0 F a b (lists L).g n acc i (lists L).a (lists L).b (lists L).c (lists L).d (lists L).e (lists L).f (lists L).g X0 Y0 X1 Y1 C =
        some (acc++((List.range' i m).filter (sel L (X0+a) (Y0+b))).map (fun j:Nat=>(j:Int)),(lists L).a,(lists L).b,(lists L).c,(lists L).d,(lists L).e,(lists L).f,(lists L).g,X0,Y0,X1,Y1,C):=by
  intro m
  have hg:(lists L).g.length=L.length:=by simp [lists]
  induction m with
  | zero =>
    intro i n acc h hn _
    obtain ⟨n,rfl⟩:∃ k,n=k+1:=⟨n - 1,by omega⟩
    have:decide ((i:Int) < ((lists L).g.length:Int))=false:=by simp; omega
    rw [ref3_Sheet_At_L0]
    simp only [this,cond_false]
    simp
  | succ m ih =>
    intro i n acc h hn hl
    obtain ⟨n,rfl⟩:∃ k,n=k+1:=⟨n - 1,by omega⟩
    have hd:decide ((i:Int) < ((lists L).g.length:Int))=true:=by simp; omega
    have hw:IntKind.i64.wrap ((i:Int)+1)=((i+1:Nat):Int):=by rw [wrap_id (by omega)]; omega
    have hget:L[i]? = some (lf L i):=by
      unfold lf
      rw [List.getElem?_eq_getElem (by omega)]; rfl
    obtain ⟨⟨hx1,hx2⟩,⟨hy1,hy2⟩,_⟩:=hL _ (List.mem_of_getElem? hget)
    have h38:=ref3_Sheet_leftTop_eq F L i _ hget ⟨hx1,hx2⟩ ⟨hy1,hy2⟩ (lists L).g X0 Y0 X1 Y1 C
    have w1:IntKind.i64.wrap (X0+a)=X0+a:=wrap_id (by omega)
    have w2:IntKind.i64.wrap (Y0+b)=Y0+b:=wrap_id (by omega)
    rw [ref3_Sheet_At_L0]
    simp only [hd,cond_true,h38,call_some,lett_eq,w1,w2,hw]
    have es:(bif ((lf L i).x == X0+a) then ((lf L i).y == Y0+b) else false)=sel L (X0+a) (Y0+b) i:=by
      unfold sel
      cases ((lf L i).x == X0+a) <;> rfl
    rw [es]
    cases hsel:sel L (X0+a) (Y0+b) i
    · simp only [cond_false,call_some]
      rw [ih (i+1) n acc (by omega) (by omega) (by omega)]
      simp [List.range'_succ,hsel]
    · simp only [cond_true]
      rw [chk_pos (by simp; omega),call_some]
      simp only
      rw [ih (i+1) n (acc++[(i:Int)]) (by omega) (by omega) (by simp; omega)]
      simp [List.range'_succ,hsel]
def hAt (hs:List Int) (x:Int):Int:=hs.getD x.toNat 0
theorem ref3_Sheet_At_L4_eq (F:Nat) (hs:List Int):∀ (k:Nat) (P R:List Int) (x:Int) (n:Nat),P.length=k→k < n→k≤1000→(∀ y∈P,0≤y∧y < hs.length)→(0≤x∧x < hs.length) →
    ∃ A B,P=A++B∧ref3_Sheet_At_L4 F hs n (P++x :: R) k=some (A++x :: (B++R))∧(∀ y∈B,hAt hs y < hAt hs x)∧(∀ y,A.getLast? = some y→hAt hs x≤hAt hs y):=by
  intro k
  induction k with
  | zero =>
    intro P R x n hP hn _ _ _
    obtain ⟨n,rfl⟩:∃ k,n=k+1:=⟨n - 1,by omega⟩
    have:P=[]:=List.length_eq_zero_iff.1 hP
    subst this
    refine ⟨[],[],rfl,?_,by simp,by simp⟩
    rw [ref3_Sheet_At_L4]
    simp [chk,lett]
  | succ k ih =>
    intro P R x n hP hn hk hv hx
    obtain ⟨n,rfl⟩:∃ k,n=k+1:=⟨n - 1,by omega⟩
    rcases List.eq_nil_or_concat P with rfl | ⟨P',y,rfl⟩
    · simp at hP
    · simp only [List.concat_eq_append] at hP hv ⊢
      have hP':P'.length=k:=by simpa using hP
      have hy:=hv y (by simp)
      have e1:P'++[y]++x :: R=P'++y :: x :: R:=by simp
      rw [e1]
      have g1:(P'++y :: x :: R).getD (k+1) 0=x:=by
        rw [List.getD_eq_getElem?_getD,List.getElem?_append_right (by omega)]
        simp [hP']
      have g0:(P'++y :: x :: R).getD k 0=y:=by
        rw [List.getD_eq_getElem?_getD,List.getElem?_append_right (by omega)]
        simp [hP']
      have hw:IntKind.i64.wrap (((k+1:Nat):Int) - 1)=(k:Int):=by rw [wrap_id (by omega)]; omega
      have hlen:(P'++y :: x :: R).length=k+2+R.length:=by simp [hP']; omega
      have hpos:decide (((k+1:Nat):Int) > 0)=true:=by simp only [decide_eq_true_iff]; omega
      rw [ref3_Sheet_At_L4]
      simp only [hw,Int.toNat_natCast,g1,g0,hpos,cond_true,lett_eq]
      rw [chk_pos (fun _=>by rw [hlen]; omega),chk_pos (fun _=>hx),chk_pos (fun _=>by rw [hlen]; omega),chk_pos (fun _=>hy)]
      by_cases hgt:hAt hs x > hAt hs y
      · have hd:decide (hs.getD x.toNat 0 > hs.getD y.toNat 0)=true:=by simpa [hAt] using hgt
        rw [hd]
        simp only [cond_true]
        have s1:(P'++y :: x :: R).set (k+1) y=P'++y :: y :: R:=by
          rw [List.set_append_right _ _ (by omega)]; simp [hP']
        have s2:(P'++y :: y :: R).set k x=P'++x :: y :: R:=by
          rw [List.set_append_right _ _ (by omega)]; simp [hP']
        rw [s1,s2]
        rw [chk_pos (by rw [hlen]; omega),chk_pos (by rw [hlen]; omega),chk_pos (by rw [hlen]; omega),chk_pos (by simp; omega)]
        obtain ⟨A,B,e,er,hb,ha⟩:=ih P' (y :: R) x n hP' (by omega) (by omega) (fun z hz=>hv z (by simp [hz])) hx
        refine ⟨A,B++[y],by rw [e]; simp,by rw [er]; simp,?_,ha⟩
        intro z hz
        rcases List.mem_append.1 hz with hz | hz
        · exact hb z hz
        · simp at hz; subst hz; exact hgt
      · have hd:decide (hs.getD x.toNat 0 > hs.getD y.toNat 0)=false:=by simpa [hAt] using hgt
        rw [hd]
        simp only [cond_false]
        refine ⟨P'++[y],[],by simp,by simp,by simp,?_⟩
        intro z hz
        simp at hz
        subst hz
        omega
theorem ref3_Sheet_At_L2_eq (F:Nat) (hF:70≤F) (hs v31:List Int) (hl:v31.length≤60):∀ (Q P:List Int) (n:Nat),Q.length < n→P.length+Q.length=v31.length→(∀ y∈P++Q,0≤y∧y < hs.length)→P.Pairwise (fun a b=>hAt hs b≤hAt hs a) →
    ∃ S,ref3_Sheet_At_L2 F v31 hs n (P++Q) P.length=some S∧S.Perm (P++Q)∧S.Pairwise (fun a b=>hAt hs b≤hAt hs a):=by
  intro Q
  induction Q with
  | nil =>
    intro P n hn hlen _ hp
    obtain ⟨n,rfl⟩:∃ k,n=k+1:=⟨n - 1,by omega⟩
    have hd:decide ((P.length:Int) < (v31.length:Int))=false:=by simp at hlen ⊢; omega
    refine ⟨P,?_,by simp,hp⟩
    rw [ref3_Sheet_At_L2]
    simp only [hd,cond_false]
    simp
  | cons x Q ih =>
    intro P n hn hlen hv hp
    obtain ⟨n,rfl⟩:∃ k,n=k+1:=⟨n - 1,by omega⟩
    simp only [List.length_cons] at hn hlen
    have hd:decide ((P.length:Int) < (v31.length:Int))=true:=by simp; omega
    have hw:IntKind.i64.wrap ((P.length:Int)+1)=((P.length+1:Nat):Int):=by rw [wrap_id (by omega)]; omega
    obtain ⟨A,B,e,er,hb,ha⟩:=ref3_Sheet_At_L4_eq F hs P.length P Q x F rfl (by omega) (by omega) (fun y hy=>hv y (by simp [hy])) (hv x (by simp))
    subst e
    rw [ref3_Sheet_At_L2]
    simp only [hd,cond_true,er,call_some,hw]
    have hAB:=List.pairwise_append.1 hp
    have hall:∀ y∈A,hAt hs x≤hAt hs y:=by
      intro y hy
      rcases List.eq_nil_or_concat A with rfl | ⟨A',z,rfl⟩
      · simp at hy
      · simp only [List.concat_eq_append] at hy ha hAB
        have hz:=ha z (by simp)
        rcases List.mem_append.1 hy with h | h
        · have:=(List.pairwise_append.1 hAB.1).2.2 y h z (by simp)
          omega
        · simp at h; subst h; exact hz
    have hsort:(A++x :: B).Pairwise (fun a b=>hAt hs b≤hAt hs a):=by
      refine List.pairwise_append.2 ⟨hAB.1,List.pairwise_cons.2 ⟨fun y hy=>Int.le_of_lt (hb y hy),hAB.2.1⟩,?_⟩
      intro a haA b hbB
      rcases List.mem_cons.1 hbB with rfl | hbB
      · exact hall a haA
      · exact hAB.2.2 a haA b hbB
    have el:A++x :: (B++Q)=(A++x :: B)++Q:=by simp
    have en:(((A++B).length+1:Nat):Int)=(((A++x :: B).length:Nat):Int):=by simp; omega
    rw [el,en]
    obtain ⟨S,h1,h2,h3⟩:=ih (A++x :: B) n (by omega) (by simp at hlen ⊢; omega) (by
      intro y hy
      apply hv
      simp at hy ⊢
      rcases hy with h | h | h | h
      · exact .inl h
      · exact .inr (.inr (.inl h))
      · exact .inr (.inl h)
      · exact .inr (.inr (.inr h))) hsort
    refine ⟨S,h1,h2.trans ?_,h3⟩
    have p1:(A++x :: B++Q).Perm (x :: (A++B)++Q):=List.Perm.append_right Q List.perm_middle
    exact p1.trans (List.perm_middle (l₁:=A++B) (a:=x) (l₂:=Q)).symm
theorem ref3_Sheet_At_eq {F:Nat} (hF:70≤F) {C N cols rows:Nat} {G:Nat→Nat→List S_FoldLeaf} {L:List Lf} {X0 Y0 p:Int} {q:Nat} (inv:Inv C N cols rows G L X0 Y0 p q) (hp:p≤600000) (c r:Nat) (hc:c < cols) (hr:r < rows) (X1 Y1 Cc:Int) {I:List Nat} (hI:Pl C L I (X0+c) (Y0+r) (G c r)) :
    ref3_Sheet_At F c r (lists L).a (lists L).b (lists L).c (lists L).d (lists L).e (lists L).f (lists L).g X0 Y0 X1 Y1 Cc =
      some (I.map (fun j:Nat=>(j:Int)),(lists L).a,(lists L).b,(lists L).c,(lists L).d,(lists L).e,(lists L).f,(lists L).g,X0,Y0,X1,Y1,Cc):=by
  have hN:=inv.hN
  have hlen:=inv.len
  have hbX:=inv.bX
  have hbY:=inv.bY
  have hcc:=inv.hc
  have hrr:=inv.hr
  have e0:=ref3_Sheet_At_L0_eq F c r L (by omega) (by
    intro l hl
    have h1:=inv.box l hl
    have h2:=inv.bh l hl
    exact ⟨by omega,by omega,by omega⟩) X0 Y0 X1 Y1 Cc (by omega) (by omega) (by omega) (by omega) L.length 0 F [] (by omega) (by omega) (by simp; omega)
  obtain ⟨Z,hZ⟩:∃ Z,(List.range' 0 L.length).filter (sel L (X0+c) (Y0+r))=Z:=⟨_,rfl⟩
  rw [hZ] at e0
  have hzl:Z.length≤32:=by
    rw [← hZ]
    refine Nat.le_trans (List.length_filter_le _ _) ?_
    simp; omega
  have hzm:∀ i,i∈Z↔i∈I:=by
    intro i
    rw [← hZ,hI.mem,List.mem_filter,List.mem_range'_1]
    constructor
    · rintro ⟨h1,h2⟩
      have hget:L[i]? = some (lf L i):=by
        unfold lf
        rw [List.getElem?_eq_getElem (by omega)]; rfl
      unfold sel at h2
      simp at h2
      exact ⟨_,hget,h2.1,h2.2⟩
    · rintro ⟨l,hl,hx,hy⟩
      have:=(List.getElem?_eq_some_iff.1 hl).1
      refine ⟨by omega,?_⟩
      unfold sel
      rw [lf_some hl,hx,hy]
      simp
  have hznd:Z.Nodup:=by
    rw [← hZ]
    exact List.Pairwise.filter _ (List.nodup_range')
  have hind:I.Nodup:=hI.srt.imp (fun h e=>by subst e; omega)
  have hgl:(lists L).g.length=L.length:=by simp [lists]
  have hval:∀ i,i∈I→i < L.length:=by
    intro i hi
    obtain ⟨l,hl,_⟩:=(hI.mem i).1 hi
    exact (List.getElem?_eq_some_iff.1 hl).1
  have hh:∀ i,i∈I→hAt (lists L).g (i:Int)=hOf L i:=by
    intro i hi
    have:=hval i hi
    unfold hAt hOf lf
    rw [Int.toNat_natCast,List.getD_eq_getElem?_getD]
    simp [lists,this]
  obtain ⟨S,s1,s2,s3⟩:=ref3_Sheet_At_L2_eq F hF (lists L).g (Z.map (fun j:Nat=>(j:Int))) (by simp; omega) (Z.map (fun j:Nat=>(j:Int))) [] F (by simp; omega) (by simp) (by
    intro y hy
    simp only [List.nil_append,List.mem_map] at hy
    obtain ⟨i,hi,rfl⟩:=hy
    have:=hval i ((hzm i).1 hi)
    omega) List.Pairwise.nil
  have hS:S=I.map (fun j:Nat=>(j:Int)):=by
    refine List.Perm.eq_of_pairwise (le:=fun a b=>hAt (lists L).g b≤hAt (lists L).g a) ?_ s3 ?_ ?_
    · intro a b ha hb h1 h2
      have ha':a∈Z.map (fun j:Nat=>(j:Int)):=s2.subset ha
      obtain ⟨i,hi,rfl⟩:=List.mem_map.1 ha'
      obtain ⟨j,hj,rfl⟩:=List.mem_map.1 hb
      have hi':=(hzm i).1 hi
      rw [hh i hi',hh j hj] at h1 h2
      obtain ⟨x,hx⟩:=List.mem_iff_getElem?.1 hi'
      obtain ⟨y,hy⟩:=List.mem_iff_getElem?.1 hj
      have hx':=List.getElem?_eq_some_iff.1 hx
      have hy':=List.getElem?_eq_some_iff.1 hy
      rcases Nat.lt_trichotomy x y with h | h | h
      · have:=List.pairwise_iff_getElem.1 hI.srt x y hx'.1 hy'.1 h
        rw [hx'.2,hy'.2] at this
        omega
      · subst h
        rw [hx] at hy
        cases hy
        rfl
      · have:=List.pairwise_iff_getElem.1 hI.srt y x hy'.1 hx'.1 h
        rw [hx'.2,hy'.2] at this
        omega
    · rw [List.pairwise_map]
      refine hI.srt.imp_of_mem ?_
      intro i j hi hj h
      rw [hh i hi,hh j hj]
      omega
    · refine s2.trans ?_
      simp only [List.nil_append]
      exact ((List.perm_ext_iff_of_nodup hznd hind).2 hzm).map _
  unfold ref3_Sheet_At
  rw [show (0:Int)=((0:Nat):Int) from rfl,e0]
  simp only [List.nil_append,call_some]
  simp only [List.nil_append,List.length_nil] at s1
  rw [s1,hS]
  rfl
end Go.Vm.BinG
