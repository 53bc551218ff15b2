/-
  para.Hyphens: the reference's gaps,and the law.
-/
import Derived.Test.YtbnneoaaeidenaaDoorParKd
namespace Go.Vm.ParM
open Go.Vm.ParG
/-- What one pattern gives at a gap,from a place of its levels on. -/
def DA (S:List UInt8) (g:Nat) (w:List UInt8) (l:List Int) (k:Nat) (a:Int):Prop:=∃ k',k≤k'∧k' < l.length∧k'≤g∧w <+: S.drop (g - k')∧a=l.getD k' 0
theorem max_if (a b:Int):(if a < b then b else a)=Max.max a b:=by
  split <;> omega
theorem D8 (F:Nat) (a0:List UInt8) (g:Nat) (hg:g < 1000000) (y:List UInt8×List Int×Bool) (hy0:y.1≠[]) (hy1:y.1.length < 1000000) (hy2:y.2.1.length < 1000000) (hy3:∀ z∈y.2.1,0≤z) (ha:a0.length < 1000000):∀ (d k n:Nat) (v:Int) (B:Int→Prop),k+d=y.2.1.length→d < n→Mx B v →
    ∃ v',ref3_Divided_L8 F a0 (g:Int) y n v (k:Int)=some v'∧Mx (fun a=>B a∨DA ([46]++a0++[46]) (g+1) y.1 y.2.1 k a) v'
  | d,k,0,v,B,_,h,_=>absurd h (Nat.not_lt_zero _)
  | 0,k,n+1,v,B,h,_,hB=>by
    unfold ref3_Divided_L8
    rw [show k=y.2.1.length by omega,dec_end]
    exact ⟨v,rfl,hB.congr fun a=>⟨.inl,fun ha=>ha.elim id fun ⟨k',h1,h2,_⟩=>by omega⟩⟩
  | d+1,k,n+1,v,B,h,hn,hB=>by
    have hk:k < y.2.1.length:=by omega
    have hSlen:(([46]++a0++[46]:List UInt8)).length=a0.length+2:=by simp
    -- the round
    have hround:∃ v1,(lett (IntKind.i64.wrap ((IntKind.i64.wrap ((IntKind.i64.wrap ((g:Int)+(1:Int))) - (k:Int)))+(y.1.length:Int))) fun z2 =>
        lett ((bif (decide ((IntKind.i64.wrap ((IntKind.i64.wrap ((g:Int)+(1:Int))) - (k:Int))) ≥ (0:Int))) then (decide (z2≤(((([46]:List UInt8)++a0)++([46]:List UInt8)).length:Int))) else false)) fun z3 =>
        lett (IntKind.i64.wrap ((IntKind.i64.wrap ((IntKind.i64.wrap ((g:Int)+(1:Int))) - (k:Int)))+(y.1.length:Int))) fun z4 =>
        chk (((z3 == true) && true)=true→0≤(IntKind.i64.wrap ((IntKind.i64.wrap ((g:Int)+(1:Int))) - (k:Int)))∧(IntKind.i64.wrap ((IntKind.i64.wrap ((g:Int)+(1:Int))) - (k:Int)))≤z4∧z4≤(((([46]:List UInt8)++a0)++([46]:List UInt8)).length:Int)) <|
        lett (((((([46]:List UInt8)++a0)++([46]:List UInt8)).drop (IntKind.i64.wrap ((IntKind.i64.wrap ((g:Int)+(1:Int))) - (k:Int))).toNat).take (z4.toNat - (IntKind.i64.wrap ((IntKind.i64.wrap ((g:Int)+(1:Int))) - (k:Int))).toNat))) fun z5 =>
        bif (bif z3 then (z5 == y.1) else false) then
          chk (0≤(k:Int)∧(k:Int) < y.2.1.length) <|
          some (if v < (y.2.1.getD (k:Int).toNat 0) then (y.2.1.getD (k:Int).toNat 0) else v)
        else
          some v)=some v1∧Mx (fun a=>B a∨(k≤g+1∧y.1 <+: ([46]++a0++[46]:List UInt8).drop (g+1 - k)∧a=y.2.1.getD k 0)) v1:=by
      rw [wrap_succ (i:=g) (by omega)]
      by_cases hkg:k≤g+1
      · have e1:IntKind.i64.wrap (((g+1:Nat):Int) - (k:Int))=((g+1 - k:Nat):Int):=by rw [wrap_id (by omega)]; omega
        have e2:IntKind.i64.wrap (((g+1 - k:Nat):Int)+(y.1.length:Int))=((g+1 - k+y.1.length:Nat):Int):=by rw [wrap_id (by omega)]; omega
        simp only [lett_eq,e1,e2,nat_toNat]
        rw [decide_eq_true (show ((g+1 - k:Nat):Int) ≥ 0 by omega),cond_true]
        by_cases hin:g+1 - k+y.1.length≤a0.length+2
        · rw [decide_eq_true (show ((g+1 - k+y.1.length:Nat):Int)≤((([46]++a0++[46]:List UInt8)).length:Int) by rw [hSlen]; omega),chk_pos (fun _=>⟨by omega,by omega,by rw [hSlen]; omega⟩),cond_true,show g+1 - k+y.1.length - (g+1 - k)=y.1.length by omega]
          have hpre:((([46]++a0++[46]:List UInt8).drop (g+1 - k)).take y.1.length == y.1)=decide (y.1 <+: ([46]++a0++[46]:List UInt8).drop (g+1 - k)):=by
            rw [Bool.eq_iff_iff,beq_iff_eq,decide_eq_true_eq,List.prefix_iff_eq_take]
            exact eq_comm
          rw [hpre]
          by_cases hp:y.1 <+: ([46]++a0++[46]:List UInt8).drop (g+1 - k)
          · rw [decide_eq_true hp,cond_true,chk_in hk,max_if]
            exact ⟨_,rfl,(hB.max (Mx.one (getD_nonneg hy3 k))).congr fun a=>or_congr Iff.rfl ⟨fun ha=>⟨hkg,hp,ha⟩,fun ha=>ha.2.2⟩⟩
          · rw [decide_eq_false hp,cond_false]
            exact ⟨_,rfl,hB.congr fun a=>⟨.inl,fun ha=>ha.elim id fun ha=>absurd ha.2.1 hp⟩⟩
        · rw [decide_eq_false (show ¬ ((g+1 - k+y.1.length:Nat):Int)≤((([46]++a0++[46]:List UInt8)).length:Int) by rw [hSlen]; omega),chk_pos (fun h=>by cases h),cond_false]
          refine ⟨_,rfl,hB.congr fun a=>⟨.inl,fun ha=>ha.elim id fun ha=>?_⟩⟩
          have:=ha.2.1.length_le
          rw [List.length_drop,hSlen] at this
          have:=List.length_pos_iff.2 hy0
          omega
      · have e1:IntKind.i64.wrap (((g+1:Nat):Int) - (k:Int))=(g:Int)+1 - k:=by rw [wrap_id (by omega)]; omega
        simp only [lett_eq,e1]
        rw [decide_eq_false (show ¬ (g:Int)+1 - k ≥ 0 by omega),cond_false,chk_pos (fun h=>by cases h),cond_false]
        exact ⟨_,rfl,hB.congr fun a=>⟨.inl,fun ha=>ha.elim id fun ha=>absurd ha.1 hkg⟩⟩
    obtain ⟨v1,hv1,hv2⟩:=hround
    unfold ref3_Divided_L8
    rw [dec_lt hk,cond_true,hv1,call_some,wrap_succ (by omega)]
    obtain ⟨v2,h1,h2⟩:=D8 F a0 g hg y hy0 hy1 hy2 hy3 ha d (k+1) n v1 _ (by omega) (by omega) hv2
    refine ⟨v2,h1,h2.congr fun a=>⟨?_,?_⟩⟩
    · rintro ((h | ⟨h1,h2,h3⟩) | ⟨k',h1,h2⟩)
      · exact .inl h
      · exact .inr ⟨k,Nat.le_refl _,hk,h1,h2,h3⟩
      · exact .inr ⟨k',by omega,h2⟩
    · rintro (h | ⟨k',h1,h2,h3,h4,h5⟩)
      · exact .inl (.inl h)
      · by_cases hkk:k'=k
        · subst hkk
          exact .inl (.inr ⟨h3,h4,h5⟩)
        · exact .inr ⟨k',by omega,h2,h3,h4,h5⟩
theorem patOf_small (p:List UInt8) (h:(patOf p).2.2=true):(patOf p).1.length≤16∧(patOf p).2.1.length≤17:=by
  obtain ⟨h1,h2,_⟩:=patOf_fit p h
  have:p.length≤16:=by
    unfold patOf at h
    cases hr:readP p.length 0 p [] [0] with
    | none=>rw [hr] at h; cases h
    | some q =>
      obtain ⟨W,L⟩:=q
      rw [hr] at h
      simp only at h
      cases hd:dots W with
      | false=>rw [hd] at h; cases h
      | true =>
        rw [hd,cond_true] at h
        have:=of_decide_eq_true h
        omega
  omega
/-- What the patterns give at a gap. -/
def GA (S:List UInt8) (g:Nat) (pats:List (List UInt8)) (a:Int):Prop:=∃ p∈pats,DA S g (patOf p).1 (patOf p).2.1 0 a
theorem D6 (F:Nat) (a0:List UInt8) (a1:List (List UInt8)) (g:Nat) (hg:g < 1000000) (ha:a0.length < 1000000) (hl:a1.length < 1000000) (hp:∀ p∈a1,p.length≤2097152∧p.length < F∧(patOf p).2.2=true) (hF:17 < F):∀ (d j n:Nat) (v:Int) (B:Int→Prop),j+d=a1.length→d < n→Mx B v →
    ∃ v',ref3_Divided_L6 F a0 a1 (g:Int) n v (j:Int)=some v'∧Mx (fun a=>B a∨GA ([46]++a0++[46]) (g+1) (a1.drop j) a) v'
  | d,j,0,v,B,_,h,_=>absurd h (Nat.not_lt_zero _)
  | 0,j,n+1,v,B,h,_,hB=>by
    unfold ref3_Divided_L6
    rw [show j=a1.length by omega,dec_end,List.drop_length]
    exact ⟨v,rfl,hB.congr fun a=>⟨.inl,fun ha=>ha.elim id fun ⟨p,hp,_⟩=>by cases hp⟩⟩
  | d+1,j,n+1,v,B,h,hn,hB=>by
    have hj:j < a1.length:=by omega
    obtain ⟨p,hpj⟩:∃ p,a1[j]=p:=⟨_,rfl⟩
    have hmem:p∈a1:=hpj ▸ List.getElem_mem hj
    obtain ⟨p1,p2,p3⟩:=hp p hmem
    have hgd:a1.getD j []=p:=by rw [List.getD_eq_getElem?_getD,List.getElem?_eq_getElem hj,hpj]; rfl
    obtain ⟨_,_,f3,f4⟩:=patOf_fit p p3
    obtain ⟨s1,s2⟩:=patOf_small p p3
    obtain ⟨v1,h1,h2⟩:=D8 F a0 g hg (patOf p) f4 (by omega) (by omega) f3 ha (patOf p).2.1.length 0 F v B (by omega) (by omega) hB
    unfold ref3_Divided_L6
    rw [dec_lt hj,cond_true,chk_in hj,nat_toNat,hgd,(pattern_eq F p p1 p2).2,call_some,show (0:Int)=((0:Nat):Int) from rfl,h1,call_some,wrap_succ (by omega)]
    obtain ⟨v2,h3,h4⟩:=D6 F a0 a1 g hg ha hl hp hF d (j+1) n v1 _ (by omega) (by omega) h2
    refine ⟨v2,h3,h4.congr fun a=>?_⟩
    rw [List.drop_eq_getElem_cons hj,hpj]
    constructor
    · rintro ((h | h) | ⟨q,hq,h⟩)
      · exact .inl h
      · exact .inr ⟨p,List.mem_cons_self ..,h⟩
      · exact .inr ⟨q,List.mem_cons_of_mem _ hq,h⟩
    · rintro (h | ⟨q,hq,h⟩)
      · exact .inl (.inl h)
      · rcases List.mem_cons.1 hq with rfl | hq
        · exact .inl (.inr h)
        · exact .inr ⟨q,hq,h⟩
theorem D4 (F:Nat) (a0:List UInt8) (a1:List (List UInt8)) (ha2:a0.length < 1000000) (hl:a1.length < 1000000) (hp:∀ p∈a1,p.length≤2097152∧p.length < F∧(patOf p).2.2=true) (hF:17 < F) (hF2:a1.length < F) {lv:List Int} (hlv:∀ g,Mx (GA ([46]++a0++[46]) g a1) (lv.getD g 0)):∀ (d i n:Nat) (out:List Int),2≤i→i+d=max i (a0.length - 1)→d < n→out.length≤i →
    ref3_Divided_L4 F a0 a1 n out (i:Int)=some (out++odds lv i d)
  | d,i,0,out,_,_,h,_=>absurd h (Nat.not_lt_zero _)
  | 0,i,n+1,out,h2,h,_,_=>by
    unfold ref3_Divided_L4
    rw [wrap_id (by omega),decide_eq_false (by omega)]
    show some out=some (out++[])
    rw [List.append_nil]
  | d+1,i,n+1,out,h2,h,hn,ho=>by
    obtain ⟨v,h3,h4⟩:=D6 F a0 a1 i (by omega) ha2 hl hp hF a1.length 0 F 0 (fun _=>False) (by omega) hF2 Mx.nil
    rw [List.drop_zero] at h4
    have hv:v=lv.getD (i+1) 0:=(h4.congr fun a=>⟨fun h=>h.elim False.elim id,.inr⟩).uniq (hlv (i+1))
    have h3':ref3_Divided_L6 F a0 a1 (i:Int) F 0 0=some v:=h3
    unfold ref3_Divided_L4
    rw [wrap_id (by omega),decide_eq_true (by omega),cond_true,h3',call_some,hv,wrap_succ (by omega)]
    by_cases hodd:(lv.getD (i+1) 0).tmod 2=1
    · rw [show (((lv.getD (i+1) 0).tmod 2) == 1)=true from beq_iff_eq.2 hodd,cond_true,chk_pos (by simp; omega),call_some,D4 F a0 a1 ha2 hl hp hF hF2 hlv d (i+1) n _ (by omega) (by omega) (by omega) (by simp; omega)]
      conv=>rhs; unfold odds
      rw [if_pos hodd,List.append_assoc]
      rfl
    · rw [show (((lv.getD (i+1) 0).tmod 2) == 1)=false from beq_eq_false_iff_ne.2 hodd,cond_false,call_some,D4 F a0 a1 ha2 hl hp hF hF2 hlv d (i+1) n _ (by omega) (by omega) (by omega) (by omega)]
      conv=>rhs; unfold odds
      rw [if_neg hodd]
theorem D2 (F:Nat) (a1:List (List UInt8)) (hl:a1.length < 1000000) (hp:∀ p∈a1,p.length≤2097152∧p.length < F):∀ (d j n:Nat),j+d=a1.length→d < n→ref3_Divided_L2 F a1 n (j:Int)=some (bif (a1.drop j).all (fun p=>(patOf p).2.2) then .go () else .esc ([],5))
  | d,j,0,_,h=>absurd h (Nat.not_lt_zero _)
  | 0,j,n+1,h,_=>by
    unfold ref3_Divided_L2
    rw [show j=a1.length by omega,dec_end,List.drop_length]
    rfl
  | d+1,j,n+1,h,hn=>by
    have hj:j < a1.length:=by omega
    obtain ⟨p,hpj⟩:∃ p,a1[j]=p:=⟨_,rfl⟩
    have hgd:a1.getD j []=p:=by rw [List.getD_eq_getElem?_getD,List.getElem?_eq_getElem hj,hpj]; rfl
    obtain ⟨p1,p2⟩:=hp p (hpj ▸ List.getElem_mem hj)
    unfold ref3_Divided_L2
    rw [dec_lt hj,cond_true,chk_in hj,nat_toNat,hgd,(pattern_eq F p p1 p2).2,call_some,wrap_succ (by omega),D2 F a1 hl hp d (j+1) n (by omega) (by omega),List.drop_eq_getElem_cons hj,hpj,List.all_cons]
    cases (patOf p).2.2 <;> rfl
theorem equal_self (F:Nat) (l:List Int) (hb:l.length < 1000000) (hF:l.length < F):slices_Equal_int F l l=some true:=by
  have key:∀ (d i n:Nat),i+d=l.length→d < n→slices_Equal_int_L0 F l l n (i:Int)=some (.go ()):=by
    intro d
    induction d with
    | zero =>
      intro i n h hn
      cases n with
      | zero=>omega
      | succ n =>
        unfold slices_Equal_int_L0
        rw [show i=l.length by omega,dec_end]
        rfl
    | succ d ih =>
      intro i n h hn
      cases n with
      | zero=>omega
      | succ n =>
        unfold slices_Equal_int_L0
        rw [dec_lt (by omega),cond_true,chk_in (by omega),chk_in (by omega),wrap_succ (by omega),ih (i+1) n (by omega) (by omega)]
        simp
  unfold slices_Equal_int
  have:=key l.length 0 F (by omega) hF
  rw [show ((0:Nat):Int)=0 from rfl] at this
  rw [this]
  simp [callE_go]
theorem odds_length (lv:List Int):∀ (n i:Nat),(odds lv i n).length≤n
  | 0,i=>Nat.le_refl _
  | n+1,i=>by
    unfold odds
    have:=odds_length lv n (i+1)
    split
    · simp only [List.length_cons]; omega
    · omega
theorem hyph_both (F:Nat) (a0:List UInt8) (a1:List (List UInt8)) (h0:a0.length≤2097152) (h1:∀ p∈a1,p.length≤2097152) (hF0:a0.length+300≤F) (hF1:∀ p∈a1,p.length < F):∃ r,hyph F a0 a1=some r∧ref3_Divided F a0 a1=some r∧r.1.length≤31:=by
  unfold hyph ref3_Divided
  rw [letters_eq F a0 (by omega)]
  have hD0:=D0 F a0 (by omega) a0.length 0 F (bif (!(a0 == [])) then (decide ((a0.length:Int)≤(31:Int))) else false) (by omega) (by omega)
  rw [List.drop_zero,show ((0:Nat):Int)=0 from rfl] at hD0
  rw [hD0,call_some]
  show ∃ r,_∧(bif !(goodW a0) then _ else _)=_∧_
  cases hg:goodW a0 with
  | false=>exact ⟨_,rfl,rfl,by simp⟩
  | true =>
    have hlen:a0.length≤31:=by
      unfold goodW at hg
      cases hc:(bif !(a0 == []) then decide ((a0.length:Int)≤31) else false) with
      | false=>rw [hc] at hg; cases hg
      | true =>
        cases hn:(!(a0 == [])) with
        | false=>rw [hn] at hc; cases hc
        | true =>
          rw [hn,cond_true] at hc
          have:=of_decide_eq_true hc
          omega
    simp only [Bool.not_true,cond_false]
    by_cases h256:256 < a1.length
    · rw [if_pos h256,decide_eq_true (by omega)]
      exact ⟨_,rfl,rfl,by simp⟩
    · rw [if_neg h256,decide_eq_false (by omega),cond_false,if_neg (by omega)]
      have hp:∀ p∈a1,p.length≤2097152∧p.length < F:=fun p hp=>⟨h1 p hp,hF1 p hp⟩
      have hD2:=D2 F a1 (by omega) hp a1.length 0 F (by omega) (by omega)
      rw [List.drop_zero,show ((0:Nat):Int)=0 from rfl] at hD2
      rw [hD2]
      have hz:∀ (u:List UInt8) (k:Nat),Mx (fun _=>False) ((val [Nd.mk none none] 0 u).getD k 0):=fun u k=>by
        have:(val [Nd.mk none none] 0 u)=[]:=by
          cases u with
          | nil=>rfl
          | cons c r=>rfl
        rw [this]
        exact Mx.nil
      rcases hyphAll_eq F a1 Inv.start hp hz with ⟨ha,hb⟩ | ⟨ha,τ,lab,hb,hi,hm⟩
      · rw [ha,hb]
        exact ⟨_,rfl,rfl,by simp⟩
      · rw [ha,hb]
        have hz2:∀ g,Mx (fun _=>False) ((List.replicate (a0.length+3) (0:Int)).getD g 0):=fun g=>by
          have:(List.replicate (a0.length+3) (0:Int)).getD g 0=0:=by
            rw [List.getD_eq_getElem?_getD,List.getElem?_replicate]
            split <;> rfl
          rw [this]
          exact Mx.nil
        obtain ⟨lv,c1,c2,c3⟩:=goI_eq hi hm ([46]++a0++[46]) 0 (List.replicate (a0.length+3) 0) (fun _ _=>False) (by first | (simp; done) | (simp; omega)) hz2
        have hall:∀ p∈a1,p.length≤2097152∧p.length < F∧(patOf p).2.2=true:=fun p hq=>⟨h1 p hq,hF1 p hq,List.all_eq_true.1 ha p hq⟩
        have hlv:∀ g,Mx (GA ([46]++a0++[46]) g a1) (lv.getD g 0):=fun g=>(c3 g).congr fun a=>by
          constructor
          · rintro (h | ⟨d,v,hv,hpre,hdg,h | ⟨p,hq,rfl,hk,ha⟩⟩)
            · exact h.elim
            · exact h.elim
            · rw [Nat.zero_add] at hdg hk ha
              exact ⟨p,hq,g - d,Nat.zero_le _,hk,Nat.sub_le _ _,by rw [show g - (g - d)=d by omega]; exact hpre,ha⟩
          · rintro ⟨p,hq,k,_,hk,hkg,hpre,ha⟩
            refine .inr ⟨g - k,(patOf p).1,(patOf_fit p (hall p hq).2.2).2.2.2,hpre,by omega,.inr ⟨p,hq,rfl,?_,?_⟩⟩
            · rw [show g - (0+(g - k))=k by omega]
              exact hk
            · rw [show g - (0+(g - k))=k by omega]
              exact ha
        have hD4:=D4 F a0 a1 (by omega) (by omega) hall (by omega) (by omega) hlv (a0.length - 3) 2 F [] (by omega) (by omega) (by omega) (by simp)
        have c1':goI τ ([46]++a0++[46]) 0 (List.replicate (a0.length+3) 0)=some lv:=c1
        simp only [cond_true,callE_go]
        rw [c1',chk_pos (by simp; omega),chk_pos (by simp; omega)]
        have hD4':ref3_Divided_L4 F a0 a1 F [] 2=some (odds lv 2 (a0.length - 3)):=hD4
        rw [hD4']
        refine ⟨_,rfl,rfl,?_⟩
        have:=odds_length lv (a0.length - 3) 2
        show (odds lv 2 (a0.length - 3)).length≤31
        omega
theorem hyph_law (a0:List UInt8) (a1:List (List UInt8)) (h0:a0.length≤2097152) (h1:∀ p∈a1,p.length≤2097152):∃ F,law3_ParaHyphensMatchReference F a0 a1=some true:=by
  refine ⟨2100000+40,?_⟩
  obtain ⟨r,e1,e2,e3⟩:=hyph_both (2100000+40) a0 a1 h0 h1 (by omega) (fun p hp=>by have:=h1 p hp; omega)
  unfold law3_ParaHyphensMatchReference para_Hyphens
  rw [fact 2100000,call_some,e1,e2]
  simp only [Bool.not_true,cond_false,call_some,beq_self_eq_true,Bool.and_true,cond_true]
  rw [equal_self _ r.1 (by omega) (by omega)]
  rfl
end Go.Vm.ParM
