/-
  TICKETS,PLAIN,part 10: a schema,checked; the laws of Check and Validate.
-/
import Derived.Test.YtbfjbkndglcabaaDoorTicLm
namespace Go.Vm.TicG
theorem same_eq {F:Nat} (hF:10≤F) {o:S_Object} (h:OOk F o):object_Same F o (S_Object.mk 0 0 [] [] [])=some (o.f0 == 0):=by
  obtain ⟨n,rfl⟩:∃ k,F=k+2:=⟨F - 2,by omega⟩
  have ho:=h.node
  by_cases hk:o.f0=0
  · obtain ⟨k,v,s,ks,l⟩:=o
    simp only at hk
    subst hk
    have h1:=ho.v (by simp) (by simp) (by simp)
    have h2:=ho.s (by simp) (by simp)
    have h3:=ho.l (by simp) (by simp)
    have h4:=ho.ks0 (by simp)
    simp only at h1 h2 h3 h4
    subst h1 h2 h3 h4
    rfl
  · have hb:(o.f0 == 0)=false:=by simpa using hk
    change object_Same_body (n+2) (object_Same_fuel (n+2) (n+1)) o (S_Object.mk 0 0 [] [] [])=_
    unfold object_Same_body
    simp only [hb,cond_false]
    rfl
/-- The program and the reference agree on a field. -/
def SameF (p r:Option (Int×Int)) (c:Nat) (Q:Nat→Prop):Prop :=
  (∃ e k' k'',e≠0∧p=some (e,k')∧r=some (e,k''))∨(∃ k':Nat,p=some (0,(k':Int))∧r=some (0,(k':Int))∧c < k'∧k'≤64∧Q k')
theorem fkids_eq {F:Nat} {f:S_TicketField} (hs:SmF f) {d j:Nat} (hd:d≤5) {P Q:S_TicketField→Int→Bool→Int→Option (Int×Int)} {nm:Bool}
    (ih:∀ x∈f.f5,∀ c:Nat,c≤64→SameF (P x ((d+1:Nat):Int) nm c) (Q x ((d+1:Nat):Int) nm c) c (fun _=>FOk j x)) (hnm:(f.f1 == 4)=nm) :
    ∀ (m i n:Nat) (c:Nat),i+m=f.f5.length→m < n→c≤64→i≤c→(∀ x,x+1 < f.f5.length→x+1 < i→bl (f.f5.getD x tf0).f0 (f.f5.getD (x+1) tf0).f0)→(∀ x,x < i→FOk j (f.f5.getD x tf0)) →
      (∃ e k' k'',e≠0∧ticket_checker_field_L1 F f d P n i c=some (.esc (e,k'))∧ref3_FieldError_L3 F f d Q n i c=some (.esc (e,k''))) ∨
      (∃ k':Nat,ticket_checker_field_L1 F f d P n i c=some (.go (k':Int))∧ref3_FieldError_L3 F f d Q n i c=some (.go (k':Int))∧c≤k'∧k'≤64∧f.f5.length≤k'∧(∀ x,x+1 < f.f5.length→bl (f.f5.getD x tf0).f0 (f.f5.getD (x+1) tf0).f0)∧∀ x,x < f.f5.length→FOk j (f.f5.getD x tf0)):=by
  have hmax:maxLen=9223372036854775807:=rfl
  have hl5:=hs.l5
  intro m
  induction m with
  | zero =>
    intro i n c h hn hc hic h1 h2
    obtain ⟨n,rfl⟩:∃ k,n=k+1:=⟨n - 1,by omega⟩
    obtain rfl:i=f.f5.length:=by omega
    refine .inr ⟨c,?_,?_,Nat.le_refl _,hc,hic,fun x hx=>h1 x hx hx,h2⟩
    · rw [ticket_checker_field_L1,dec_end,cond_false]
    · rw [ref3_FieldError_L3,dec_end,cond_false]
  | succ m ihm =>
    intro i n c h hn hc hic h1 h2
    obtain ⟨n,rfl⟩:∃ k,n=k+1:=⟨n - 1,by omega⟩
    have hi:i < f.f5.length:=by omega
    have hw:IntKind.i64.wrap ((i:Int)+1)=((i+1:Nat):Int):=wrap_succ (by omega)
    have hwd:IntKind.i64.wrap ((d:Int)+1)=((d+1:Nat):Int):=wrap_succ (by omega)
    have e0:∀ x:Nat,f.f5.getD ((x:Nat):Int).toNat (S_TicketField.mk [] 0 0 0 [] [] false (S_Object.mk 0 0 [] [] []))=f.f5.getD x tf0:=fun _=>rfl
    rw [ticket_checker_field_L1,ref3_FieldError_L3,dec_lt hi,cond_true,chk_in hi,cond_true,chk_in hi,hw,hwd,hnm,e0]
    rcases ih _ (getD_mem tf0 hi) c hc with ⟨e,k',k'',he,g1,g2⟩ | ⟨k',g1,g2,g3,g4,g5⟩
    · have hne:(e != 0)=true:=by simpa using he
      rw [g1,g2,call_some,call_some]
      simp only [hne,cond_true]
      exact .inl ⟨e,k',k'',he,rfl,rfl⟩
    · rw [g1,g2,call_some,call_some]
      simp only [bne_self_eq_false,cond_false,lett_eq]
      have hpre:0 < i→IntKind.i64.wrap ((i:Int) - 1)=((i - 1:Nat):Int):=fun h0=>wrap_pred h0 (by omega)
      have hck:(((decide ((i:Int) > (0:Int))) == true) && true)=true→0≤(IntKind.i64.wrap ((i:Int) - (1:Int)))∧(IntKind.i64.wrap ((i:Int) - (1:Int))) < (f.f5.length:Int):=by
        intro h0
        simp at h0
        rw [hpre (by omega)]
        omega
      rw [chk_pos hck,chk_pos hck,bL_tri]
      have cont:=ihm (i+1) n k' (by omega) (by omega) g4 (by omega)
      have hF2:∀ x,x < i+1→FOk j (f.f5.getD x tf0):=by
        intro x hx
        by_cases hxi:x=i
        · rw [hxi]; exact g5
        · exact h2 x (by omega)
      have out:∀ (A B:Option (Out Int (Int×Int))),
          ((∃ e k' k'',e≠0∧A=some (.esc (e,k'))∧B=some (.esc (e,k''))) ∨
            (∃ q:Nat,A=some (.go (q:Int))∧B=some (.go (q:Int))∧k'≤q∧q≤64∧f.f5.length≤q∧(∀ x,x+1 < f.f5.length→bl (f.f5.getD x tf0).f0 (f.f5.getD (x+1) tf0).f0)∧∀ x,x < f.f5.length→FOk j (f.f5.getD x tf0))) →
          ((∃ e k' k'',e≠0∧A=some (.esc (e,k'))∧B=some (.esc (e,k''))) ∨
            (∃ q:Nat,A=some (.go (q:Int))∧B=some (.go (q:Int))∧c≤q∧q≤64∧f.f5.length≤q∧(∀ x,x+1 < f.f5.length→bl (f.f5.getD x tf0).f0 (f.f5.getD (x+1) tf0).f0)∧∀ x,x < f.f5.length→FOk j (f.f5.getD x tf0))):=by
        rintro A B (h | ⟨q,q1,q2,q3,q4⟩)
        · exact .inl h
        · exact .inr ⟨q,q1,q2,by omega,q4⟩
      by_cases h0:0 < i
      · rw [hpre h0,e0,decide_eq_true (show (i:Int) > 0 by omega),cond_true]
        cases hb:(Op.bytesLess (f.f5.getD i tf0).f0 (f.f5.getD (i - 1) tf0).f0 || (f.f5.getD i tf0).f0 == (f.f5.getD (i - 1) tf0).f0) with
        | true=>exact .inl ⟨18,_,_,by decide,rfl,rfl⟩
        | false =>
          refine out _ _ (cont (fun x hx1 hx2=>?_) hF2)
          by_cases hxi:x+1=i
          · subst hxi
            have:=bL_tri (f.f5.getD x tf0).f0 (f.f5.getD (x+1) tf0).f0
            rw [Nat.add_sub_cancel] at hb
            rw [hb] at this
            simpa using this
          · exact h1 x hx1 (by omega)
      · have hi0:i=0:=by omega
        rw [decide_eq_false (show ¬ (i:Int) > 0 by omega)]
        simp only [cond_false]
        exact out _ _ (cont (fun x hx1 hx2=>by omega) hF2)
theorem field_eq {F:Nat} (hF:4294967300≤F) (hF2:maxLen < F):∀ (j d n:Nat) (f:S_TicketField) (nm:Bool) (c:Nat),d+j=6→j < n→SmF f→c≤64 →
    SameF (ticket_checker_field_fuel F n f d nm c) (ref3_FieldError_fuel F n f d nm c) c (fun _=>FOk j f):=by
  intro j
  induction j with
  | zero =>
    intro d n f nm c hd hn hs hc
    obtain ⟨n,rfl⟩:∃ k,n=k+1:=⟨n - 1,by omega⟩
    obtain rfl:d=6:=by omega
    change SameF (ticket_checker_field_body F (ticket_checker_field_fuel F n) f (6:Nat) nm c) (ref3_FieldError_body F (ref3_FieldError_fuel F n) f (6:Nat) nm c) _ _
    unfold ticket_checker_field_body ref3_FieldError_body
    rw [wrap_succ (by omega)]
    by_cases hcc:decide (((c+1:Nat):Int) > 64)=true
    · rw [hcc]
      exact .inl ⟨2,_,_,by decide,rfl,rfl⟩
    · rw [Bool.not_eq_true] at hcc
      rw [hcc,cond_false,cond_false]
      exact .inl ⟨15,_,_,by decide,rfl,rfl⟩
  | succ j ih =>
    intro d n f nm c hd hn hs hc
    obtain ⟨n,rfl⟩:∃ k,n=k+1:=⟨n - 1,by omega⟩
    change SameF (ticket_checker_field_body F (ticket_checker_field_fuel F n) f d nm c) (ref3_FieldError_body F (ref3_FieldError_fuel F n) f d nm c) _ _
    have hkids:∀ x∈f.f5,∀ c:Nat,c≤64→SameF (ticket_checker_field_fuel F n x ((d+1:Nat):Int) (f.f1 == 4) c) (ref3_FieldError_fuel F n x ((d+1:Nat):Int) (f.f1 == 4) c) c (fun _=>FOk j x) :=
      fun x hx c h1=>ih (d+1) n x _ c (by omega) (by omega) (hs.h5 x hx) h1
    generalize ticket_checker_field_fuel F n=P at hkids
    generalize ref3_FieldError_fuel F n=Q at hkids
    have hrl:∀ (K:Option (Int×Int)),refLim F f (c:Int) K=refLim F f (c:Int) K:=fun _=>rfl
    unfold ticket_checker_field_body ref3_FieldError_body
    rw [wrap_succ (by omega)]
    by_cases hcc:decide (((c+1:Nat):Int) > 64)=true
    · rw [hcc]
      exact .inl ⟨2,_,_,by decide,rfl,rfl⟩
    rw [Bool.not_eq_true] at hcc
    rw [hcc,cond_false,cond_false,decide_eq_false (show ¬ (d:Int) > 5 by omega),cond_false,cond_false]
    simp only [decide_eq_false_iff_not] at hcc
    obtain ⟨e,s,g1,g2,g3⟩:=shown_eq hF hF2 hs.h7
    rw [g1,g2,call_some,call_some]
    simp only
    by_cases he:e=0
    case neg =>
      have hne:(e != 0)=true:=by simpa using he
      rw [hne]
      exact .inl ⟨e,_,_,he,rfl,rfl⟩
    subst he
    obtain ⟨ho,hosz⟩:=g3 rfl
    rw [bne_self_eq_false,cond_false,cond_false]
    by_cases hk:(bif (decide (f.f1 < (0:Int))) then true else (decide (f.f1 > (4:Int))))=true
    · rw [hk]
      exact .inl ⟨14,_,_,by decide,rfl,rfl⟩
    rw [Bool.not_eq_true] at hk
    rw [hk,cond_false,cond_false]
    have hk4:0≤f.f1∧f.f1≤4:=by
      rw [or_cond] at hk
      simp only [Bool.or_eq_false_iff,decide_eq_false_iff_not] at hk
      omega
    obtain ⟨b,n1,n2⟩:=name_eq hF hF2 hs.h0
    have hnm:∀ (X:Option Bool),X=some b→(bif ((nm == true) && true) then X else some false)=some (nm && b):=fun X hX=>gcal hX
    rw [hnm _ n1,hnm _ n2,call_some,call_some,and_cond]
    have hbb:(nm && !(nm && b))=(nm && !b):=by cases nm <;> cases b <;> rfl
    rw [hbb]
    by_cases hbn:(nm && !b)=true
    · rw [hbn]
      exact .inl ⟨6,_,_,by decide,rfl,rfl⟩
    rw [Bool.not_eq_true] at hbn
    rw [hbn,cond_false,cond_false]
    rw [gcal (same_eq (by omega) ho),call_some]
    have hform:(bif (bif (!nm) then (bif (!(f.f0 == [])) then true else f.f6) else false) then some (bif (!nm) then (bif (!(f.f0 == [])) then true else f.f6) else false) else some (bif (!f.f6) then (!(!f.f6 && f.f7.f0 == 0)) else false)) =
        (bif (bif (!nm) then (bif (!(f.f0 == [])) then true else f.f6) else false) then some (bif (!nm) then (bif (!(f.f0 == [])) then true else f.f6) else false) else some (bif (!f.f6) then (f.f7.f0 != (0:Int)) else false)):=by
      cases f.f6 <;> rfl
    rw [hform]
    obtain ⟨v,hv⟩:∃ v,(bif (bif (!nm) then (bif (!(f.f0 == [])) then true else f.f6) else false) then some (bif (!nm) then (bif (!(f.f0 == [])) then true else f.f6) else false) else some (bif (!f.f6) then (f.f7.f0 != (0:Int)) else false))=some v:=by
      cases (bif (!nm) then (bif (!(f.f0 == [])) then true else f.f6) else false)
      · exact ⟨_,rfl⟩
      · exact ⟨_,rfl⟩
    rw [hv,call_some,call_some]
    cases v with
    | true=>exact .inl ⟨4,_,_,by decide,rfl,rfl⟩
    | false =>
    simp only [cond_false]
    obtain ⟨el,l1,l2,l3⟩:=lim_eq hF hF2 hs hk4 (c:Int)
    have hwc:IntKind.i64.wrap ((c:Int)+1)=((c+1:Nat):Int):=wrap_succ (by omega)
    -- the kids,the default
    have tail:el=0→SameF (callE (ticket_checker_field_L1 F f d P F (0:Int) ((c+1:Nat):Int)) (fun e=>some e) fun v4 =>
          call ((bif (((f.f7.f0 != (0:Int)) == true) && true) then ticket_findings F f f.f7 [] else some [])) fun y6 =>
          bif (bif (f.f7.f0 != (0:Int)) then (decide ((y6.length:Int) > (0:Int))) else false) then some ((20:Int),v4) else some ((0:Int),v4))
        (callE (ref3_FieldError_L3 F f d Q F (0:Int) ((c+1:Nat):Int)) (fun e=>some e) fun v7 =>
          call ((bif (((f.f7.f0 != (0:Int)) == true) && true) then ref3_Refused F f f.f7 [] else some [])) fun y6 =>
          bif (bif (f.f7.f0 != (0:Int)) then (decide ((y6.length:Int) > (0:Int))) else false) then some ((20:Int),v7) else some ((0:Int),v7)) c (fun _=>FOk (j+1) f):=by
      intro hel
      obtain ⟨w1,w2⟩:=l2 hel
      have hmax:maxLen=9223372036854775807:=rfl
      have hl5:=hs.l5
      rcases fkids_eq hs (d:=d) (j:=j) (by omega) hkids rfl f.f5.length 0 F (c+1) (by omega) (by omega) (by omega) (by omega) (fun x _ hx=>by omega) (fun x hx=>by omega) with ⟨e,k',k'',h0,q1,q2⟩ | ⟨k',q1,q2,q3,q4,q5,q6,q7⟩
      · rw [Int.natCast_zero] at q1 q2
        rw [q1,q2]
        exact .inl ⟨e,k',k'',h0,rfl,rfl⟩
      · rw [Int.natCast_zero] at q1 q2
        rw [q1,q2,callE_go,callE_go]
        have hf:FOk (j+1) f:=by
          refine .mk hk4 ?_ w2 (by omega) w1 fun x hx=>?_
          · refine inc_of fun i hi=>?_
            rw [List.length_map] at hi
            have:=q6 i hi
            have e1:∀ x,x < f.f5.length→(f.f5.map (·.f0)).getD x []=(f.f5.getD x tf0).f0:=by
              intro x hx
              simp [List.getD_eq_getElem?_getD,hx]
            rw [e1 i (by omega),e1 (i+1) hi]
            exact this
          · obtain ⟨y,hy,rfl⟩:=List.getElem_of_mem hx
            have:=q7 y hy
            simpa [List.getD_eq_getElem?_getD,hy] using this
        obtain ⟨l,r1,r2,r3,_⟩:=findings_eq hF F (j+1) f f.f7 [] (by omega) hf ho hosz (by simp only [List.length_nil]; omega)
        change ticket_findings F f f.f7 []=some l at r1
        change ref3_Refused F f f.f7 []=some l at r2
        rw [r1,r2]
        have hy:∀ x:Bool,(bif ((x == true) && true) then (some l:Option Fnd) else some [])=some (bif x then l else []):=fun x=>by cases x <;> rfl
        rw [hy,call_some]
        cases (bif (f.f7.f0 != (0:Int)) then decide ((((bif (f.f7.f0 != (0:Int)) then l else [])).length:Int) > 0) else false) with
        | true=>exact .inl ⟨20,_,_,by decide,rfl,rfl⟩
        | false=>exact .inr ⟨k',rfl,rfl,by omega,q4,hf⟩
    rw [l1,call_some]
    have hrl:=l3 (callE (ref3_FieldError_L3 F f d Q F (0:Int) ((c+1:Nat):Int)) (fun e=>some e) fun v7 =>
          call ((bif (((f.f7.f0 != (0:Int)) == true) && true) then ref3_Refused F f f.f7 [] else some [])) fun y6 =>
          bif (bif (f.f7.f0 != (0:Int)) then (decide ((y6.length:Int) > (0:Int))) else false) then some ((20:Int),v7) else some ((0:Int),v7))
    unfold refLim at hrl
    rw [hwc] at hrl
    rw [hrl]
    by_cases hel:el=0
    · rw [if_pos hel,hel,bne_self_eq_false,cond_false]
      exact tail hel
    · have hne:(el != 0)=true:=by simpa using hel
      rw [if_neg hel,hne]
      exact .inl ⟨el,_,_,hel,rfl,rfl⟩
end Go.Vm.TicG
