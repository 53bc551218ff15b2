/-
  PREPRESS,PLAIN,part 6: rules; Print writes what the reference writes.
-/
import Derived.Test.YtcjnhgcbefkbcaaGreatDoorPreLe
namespace Go.Vm.PreG
abbrev r0:S_PrepressRule:=S_PrepressRule.mk [] c0
def SmR (r:S_PrepressRule):Prop:=r.f0.length≤maxLen∧SmC r.f1
structure RuleOk (r:S_PrepressRule):Prop where
  name:nm r.f0=true
  cond:Good 12 r.f1
theorem findRule_L0 (F:Nat) (l:List S_PrepressRule) (x:List UInt8) (k1:Int) (k2:List S_PrepressTerm) (k3 k4:Int) (k5:List S_PrepressCond) (hl:l.length≤4294967296):∀ (m i n:Nat),i+m=l.length→m < n →
    ∃ o,slices_IndexFunc_PrepressRule_L0 F l n (i:Int) x k1 k2 k3 k4 k5=some o∧((∃ j:Nat,o=.esc ((j:Int),x,k1,k2,k3,k4,k5))∧(l.drop i).any (fun t=>t.f0 == x)=true∨o=.go (x,k1,k2,k3,k4,k5)∧(l.drop i).any (fun t=>t.f0 == x)=false):=by
  intro m
  induction m with
  | zero =>
    intro i n hi hn
    obtain ⟨n,rfl⟩:∃ q,n=q+1:=⟨n - 1,by omega⟩
    obtain rfl:i=l.length:=by omega
    exact ⟨.go (x,k1,k2,k3,k4,k5),by rw [slices_IndexFunc_PrepressRule_L0,dec_end,cond_false],.inr ⟨rfl,by simp⟩⟩
  | succ m ih =>
    intro i n hi hn
    obtain ⟨n,rfl⟩:∃ q,n=q+1:=⟨n - 1,by omega⟩
    have hlt:i < l.length:=by omega
    rw [slices_IndexFunc_PrepressRule_L0,dec_lt hlt,cond_true,chk_in hlt,nat_toNat,wrap_succ (by omega),getD_dropT (d:=r0) hlt]
    unfold prepress_Check_c1
    rw [call_some]
    cases h:(l.getD i r0).f0 == x with
    | true=>exact ⟨.esc (i,x,k1,k2,k3,k4,k5),by rw [cond_true],.inl ⟨⟨i,rfl⟩,by simp only [List.any_cons,h,Bool.true_or]⟩⟩
    | false =>
      rw [cond_false]
      simp only [List.any_cons,h,Bool.false_or]
      exact ih (i+1) n (by omega) (by omega)
theorem findRule_eq {F:Nat} {l:List S_PrepressRule} {x:List UInt8} {k1:Int} {k2:List S_PrepressTerm} {k3 k4:Int} {k5:List S_PrepressCond} (hl:l.length≤4294967296) (hF:l.length < F):slices_ContainsFunc_PrepressRule F l x k1 k2 k3 k4 k5=some (l.any (fun t=>t.f0 == x),x,k1,k2,k3,k4,k5):=by
  unfold slices_ContainsFunc_PrepressRule slices_IndexFunc_PrepressRule
  obtain ⟨o,h1,h2⟩:=findRule_L0 F l x k1 k2 k3 k4 k5 hl l.length 0 F (by omega) (by omega)
  have h1':slices_IndexFunc_PrepressRule_L0 F l F (0:Int) x k1 k2 k3 k4 k5=some o:=h1
  rw [h1']
  simp only [List.drop_zero] at h2
  rcases h2 with ⟨⟨j,rfl⟩,h⟩ | ⟨rfl,h⟩
  · rw [callE_esc',call_some,h,decide_eq_true (by omega)]
  · rw [callE_go,call_some,h]
    rfl
theorem refRule_L2 (F:Nat) (l:List S_PrepressRule) (k:Nat) (hl:l.length≤4294967296) (hk:k≤l.length):∀ (m i n:Nat),i+m=k→m < n→ref3_RulesError_L2 F l (k:Int) n (i:Int)=some (bif ((l.take k).drop i).any (fun t=>t.f0 == (l.getD k r0).f0) then .esc 7 else .go ()):=by
  have htl:(l.take k).length=k:=by simp; omega
  intro m
  induction m with
  | zero =>
    intro i n hi hn
    obtain ⟨n,rfl⟩:∃ q,n=q+1:=⟨n - 1,by omega⟩
    have e:(l.take k).drop i=[]:=by rw [List.drop_eq_nil_of_le]; omega
    rw [ref3_RulesError_L2,e]
    simp only [nat_toNat,show (0:Int).toNat=0 from rfl,List.drop_zero,Nat.sub_zero,htl]
    rw [decide_eq_false (by omega)]
    rfl
  | succ m ih =>
    intro i n hi hn
    obtain ⟨n,rfl⟩:∃ q,n=q+1:=⟨n - 1,by omega⟩
    have hlt:i < (l.take k).length:=by omega
    rw [ref3_RulesError_L2,getD_dropT (d:=r0) hlt]
    simp only [nat_toNat,show (0:Int).toNat=0 from rfl,List.drop_zero,Nat.sub_zero]
    rw [dec_lt hlt,cond_true,chk_in hlt,lett_eq,wrap_succ (by omega),ih (i+1) n (by omega) (by omega),List.any_cons]
    cases ((l.take k).getD i r0).f0 == (l.getD k r0).f0 <;> rfl
theorem rules_L0 {F:Nat} (hF:maxLen < F) {l:List S_PrepressRule} (hs:∀ r∈l,SmR r) (h32:l.length≤32):∀ (m i n:Nat),i+m=l.length→m < n →
    (∃ e:Int,e≠0∧prepress_Check_L0 F l n (i:Int)=some (.esc e)∧ref3_RulesError_L0 F l n (i:Int)=some (.esc e)) ∨
    (prepress_Check_L0 F l n (i:Int)=some (.go ())∧ref3_RulesError_L0 F l n (i:Int)=some (.go ())∧∀ r∈l.drop i,RuleOk r):=by
  have hmax:maxLen=9223372036854775807:=rfl
  intro m
  induction m with
  | zero =>
    intro i n hi hn
    obtain ⟨n,rfl⟩:∃ q,n=q+1:=⟨n - 1,by omega⟩
    obtain rfl:i=l.length:=by omega
    refine .inr ⟨?_,?_,by simp⟩
    · rw [prepress_Check_L0,dec_end,cond_false]
    · rw [ref3_RulesError_L0,dec_end,cond_false]
  | succ m ih =>
    intro i n hi hn
    obtain ⟨n,rfl⟩:∃ q,n=q+1:=⟨n - 1,by omega⟩
    have hlt:i < l.length:=by omega
    have hmem:l.getD i r0∈l:=by
      rw [List.getD_eq_getElem?_getD,List.getElem?_eq_getElem hlt]
      exact List.getElem_mem hlt
    obtain ⟨hsl,hsc⟩:=hs _ hmem
    have hcut:0≤(0:Int)∧(0:Int)≤(i:Int)∧(i:Int)≤(l.length:Int):=⟨by omega,by omega,by omega⟩
    have hR:=refRule_L2 F l i (by omega) (by omega) i 0 F (by omega) (by omega)
    have hR':ref3_RulesError_L2 F l (i:Int) F (0:Int)=some (bif (l.take i).any (fun t=>t.f0 == (l.getD i r0).f0) then .esc 7 else .go ()):=by simpa using hR
    rw [prepress_Check_L0,ref3_RulesError_L0,dec_lt hlt,cond_true,cond_true,chk_in hlt,chk_in hlt,nat_toNat,show (0:Int).toNat=0 from rfl,List.drop_zero,Nat.sub_zero,plain_eq hsl hF,ruleName_eq hsl hF,call_some,call_some,chk_pos hcut,chk_pos hcut,findRule_eq (by simp; omega) (by simp; omega),call_some,hR',wrap_succ (by omega),getD_dropT (d:=r0) hlt]
    simp only [mk_eta]
    generalize l.getD i r0=r at *
    cases hn2:nm r.f0 with
    | false=>exact .inl ⟨6,by decide,rfl,rfl⟩
    | true =>
      simp only [Bool.not_true,cond_false]
      cases (l.take i).any (fun t'=>t'.f0 == r.f0) with
      | true=>exact .inl ⟨7,by decide,rfl,rfl⟩
      | false =>
        simp only [cond_false,callE_go]
        rcases condError_eq hF hsc with ⟨e,k',he,h1,h2⟩ | ⟨k',h1,h2,h3⟩
        · have hne:(e != 0)=true:=by simpa using he
          refine .inl ⟨e,he,?_,?_⟩
          · rw [h1,call_some]; simp only [hne,cond_true]
          · rw [h2,call_some]; simp only [hne,cond_true]
        · rw [h1,call_some,h2,call_some,bne_self_eq_false,cond_false,cond_false]
          rcases ih (i+1) n (by omega) (by omega) with h | ⟨h4,h5,h6⟩
          · exact .inl h
          · refine .inr ⟨h4,h5,fun x hx=>?_⟩
            rcases List.mem_cons.1 hx with rfl | hx
            · exact ⟨hn2,h3⟩
            · exact h6 x hx
def ruleT (r:S_PrepressRule):List UInt8:=[114,117,108,101,32]++r.f0++[58,32]++txt 12 r.f1++[59,10]
theorem ruleT_len {r:S_PrepressRule} (h:RuleOk r):(ruleT r).length≤1228830:=by
  have h1:=nm_len h.name
  have h2:=txt_len h.cond
  unfold ruleT
  simp only [List.length_append,List.length_cons,List.length_nil]
  omega
theorem printed_L0 {F:Nat} (hF:maxLen < F) {l:List S_PrepressRule} (hok:∀ r∈l,RuleOk r) (h32:l.length≤32):∀ (m i n:Nat) (acc:List UInt8),i+m=l.length→m < n→acc.length+1228830 * m≤40000000 →
    prepress_printed_L0 F l n acc (i:Int)=some (acc++(l.drop i).flatMap ruleT)∧ref3_RulesText_L0 F l n acc (i:Int)=some (acc++(l.drop i).flatMap ruleT):=by
  have hmax:maxLen=9223372036854775807:=rfl
  have hF4:4294967300≤F:=by omega
  have hF12:12≤F:=by omega
  intro m
  induction m with
  | zero =>
    intro i n acc hi hn _
    obtain ⟨n,rfl⟩:∃ q,n=q+1:=⟨n - 1,by omega⟩
    obtain rfl:i=l.length:=by omega
    rw [prepress_printed_L0,ref3_RulesText_L0,dec_end,cond_false,cond_false,List.drop_length]; simp
  | succ m ih =>
    intro i n acc hi hn hacc
    obtain ⟨n,rfl⟩:∃ q,n=q+1:=⟨n - 1,by omega⟩
    have hlt:i < l.length:=by omega
    have hmem:l.getD i r0∈l:=by
      rw [List.getD_eq_getElem?_getD,List.getElem?_eq_getElem hlt]
      exact List.getElem_mem hlt
    have hr:=hok _ hmem
    rw [prepress_printed_L0,ref3_RulesText_L0,dec_lt hlt,cond_true,cond_true,chk_in hlt,chk_in hlt,nat_toNat,wrap_succ (by omega),getD_dropT (d:=r0) hlt,List.flatMap_cons]
    generalize l.getD i r0=r at *
    have h1:=nm_len hr.name
    have h2:=txt_len hr.cond
    have h3:=ruleT_len hr
    have hsh:prepress_show F r.f1 0=some (txt 12 r.f1):=by
      unfold prepress_show
      rw [show_eq (F:=F) hF4 12 r.f1 F 0 (Nat.le_refl _) hr.cond hF12,lv0 (good_kind hr.cond)]
      unfold paren
      rw [cond_false]
    have htx:ref3_condText F r.f1=some (txt 12 r.f1):=by
      unfold ref3_condText
      exact condText_eq (F:=F) hF4 12 r.f1 F (Nat.le_refl _) hr.cond hF12
    obtain ⟨g1,g2⟩:=ih (i+1) n (acc++ruleT r) (by omega) (by omega) (by simp; omega)
    have hrt:(([114,117,108,101,32]:List UInt8)++r.f0++[58,32]++txt 12 r.f1++[59,10])=ruleT r:=rfl
    constructor
    · rw [chk_pos (by simp; omega),lett_eq,chk_pos (by simp; omega),hsh,call_some,chk_pos (by simp; omega),chk_pos (by simp; omega),hrt]
      unfold strings_Builder_WriteString
      rw [chk_pos (by omega),call_some,g1,List.append_assoc]
    · rw [chk_pos (by simp; omega),lett_eq,chk_pos (by simp; omega),htx,call_some,chk_pos (by simp; omega),chk_pos (by simp; omega),hrt,chk_pos (by omega),g2,List.append_assoc]
theorem flat_len:∀ {l:List S_PrepressRule},(∀ r∈l,RuleOk r)→(l.flatMap ruleT).length≤1228830 * l.length
  | [],_=>by simp
  | r :: l,h=>by
    have h1:=ruleT_len (h r (by simp))
    have h2:=flat_len (l:=l) (fun x hx=>h x (by simp [hx]))
    simp only [List.flatMap_cons,List.length_append,List.length_cons]
    omega
theorem printed_eq {F:Nat} (hF:maxLen < F) {l:List S_PrepressRule} (hok:∀ r∈l,RuleOk r) (h32:l.length≤32):prepress_printed F l=some (l.flatMap ruleT)∧ref3_RulesText F l=some (l.flatMap ruleT):=by
  have hmax:maxLen=9223372036854775807:=rfl
  obtain ⟨h1,h2⟩:=printed_L0 hF hok h32 l.length 0 F [] (by omega) (by omega) (by simp; omega)
  have h1':prepress_printed_L0 F l F [] (0:Int)=some (l.flatMap ruleT):=by simpa using h1
  have h2':ref3_RulesText_L0 F l F [] (0:Int)=some (l.flatMap ruleT):=by simpa using h2
  have hl:=flat_len hok
  unfold prepress_printed ref3_RulesText
  rw [h1',h2',call_some,call_some,chk_pos (by omega)]
  exact ⟨rfl,rfl⟩
/-- Both find the same first error of rules. -/
theorem rules_eq {F:Nat} (hF:maxLen < F) {l:List S_PrepressRule} (hs:∀ r∈l,SmR r) :
    ∃ e:Int,prepress_Check F l=some e∧ref3_RulesError F l=some e∧(e=0→(∀ r∈l,RuleOk r)∧l.length≤32):=by
  have hmax:maxLen=9223372036854775807:=rfl
  unfold prepress_Check ref3_RulesError
  by_cases h1:(l.length:Int) > 32
  · rw [decide_eq_true h1]
    exact ⟨2,rfl,rfl,fun h=>absurd h (by decide)⟩
  rw [decide_eq_false h1,cond_false,cond_false]
  rcases rules_L0 hF hs (by omega) l.length 0 F (by omega) (by omega) with ⟨e,he,h2,h3⟩ | ⟨h2,h3,h4⟩
  · have h2':prepress_Check_L0 F l F (0:Int)=some (.esc e):=h2
    have h3':ref3_RulesError_L0 F l F (0:Int)=some (.esc e):=h3
    rw [h2',h3']
    exact ⟨e,rfl,rfl,fun h=>absurd h he⟩
  · have h2':prepress_Check_L0 F l F (0:Int)=some (.go ()):=h2
    have h3':ref3_RulesError_L0 F l F (0:Int)=some (.go ()):=h3
    have hok:∀ r∈l,RuleOk r:=by simpa using h4
    obtain ⟨h5,h6⟩:=printed_eq hF hok (by omega)
    rw [h2',h3',callE_go,callE_go,h5,h6,call_some]
    cases decide (((l.flatMap ruleT).length:Int) > 4096)
    · exact ⟨0,rfl,rfl,fun _=>⟨hok,by omega⟩⟩
    · exact ⟨2,rfl,rfl,fun h=>absurd h (by decide)⟩
/-! ## The fact -/
abbrev factRule:S_PrepressRule:=S_PrepressRule.mk ([97]:List UInt8) (S_PrepressCond.mk 0 ([(S_PrepressTerm.mk (1:Int) ([116,111,116,97,108]:List UInt8))]) 1 300 [])
theorem factOk:RuleOk factRule:=by
  refine ⟨rfl,.inl ⟨rfl,rfl,by decide,by decide,by decide,by decide,?_⟩⟩
  intro t ht
  have:t=S_PrepressTerm.mk (1:Int) ([116,111,116,97,108]:List UInt8):=by simpa using ht
  subst this
  exact ⟨by decide,by decide,by decide,rfl⟩
theorem fact_check {F:Nat} (hF:maxLen < F):prepress_Check F [factRule]=some 0:=by
  obtain ⟨n,rfl⟩:∃ n,F=n+40:=⟨F - 40,by have hmax:maxLen=9223372036854775807:=rfl; omega⟩
  have h1:prepress_Check_L0 (n+40) [factRule] (n+40) (0:Int)=some (.go ()):=by rfl
  obtain ⟨h2,_⟩:=printed_eq hF (l:=[factRule]) (by intro r hr; rw [List.mem_singleton.1 hr]; exact factOk) (by decide)
  have hl:(([factRule]:List S_PrepressRule).flatMap ruleT).length≤4096:=by
    have h3:Good 12 factRule.f1:=factOk.cond
    rcases h3 with ⟨_,h4⟩ | ⟨h4,_⟩ | ⟨h4,_⟩
    · have h5:=cmpT_len h4
      dsimp only [factRule] at h5
      have e:txt 12 factRule.f1=cmpT factRule.f1:=rfl
      have e2:(([factRule]:List S_PrepressRule).flatMap ruleT)=ruleT factRule:=by simp
      rw [e2]
      unfold ruleT
      rw [e]
      simp only [List.length_append,List.length_cons,List.length_nil]
      omega
    · exact absurd h4 (by decide)
    · exact absurd h4 (by decide)
  unfold prepress_Check
  rw [decide_eq_false (by simp),cond_false,h1,callE_go,h2,call_some,decide_eq_false (by omega),cond_false]
theorem ruleFact_eq {F:Nat} (hF:maxLen < F):law3_ruleFact F=some true:=by
  obtain ⟨n,rfl⟩:∃ n,F=n+40:=⟨F - 40,by have hmax:maxLen=9223372036854775807:=rfl; omega⟩
  have h1:prepress_CheckFacts (n+40) ([(S_PrepressFact.mk ([105,110,107,115]:List UInt8) (4:Int)),(S_PrepressFact.mk ([116,111,116,97,108]:List UInt8) (320:Int))])=some 0:=by rfl
  have h2:prepress_Judge_L0 (n+40) [factRule] ([(S_PrepressFact.mk ([105,110,107,115]:List UInt8) (4:Int)),(S_PrepressFact.mk ([116,111,116,97,108]:List UInt8) (320:Int))]) (n+40) [] (0:Int)=some [S_PrepressFinding.mk [97] false [[116,111,116,97,108]]]:=by rfl
  have h3:prepress_Judge (n+40) [factRule] ([(S_PrepressFact.mk ([105,110,107,115]:List UInt8) (4:Int)),(S_PrepressFact.mk ([116,111,116,97,108]:List UInt8) (320:Int))])=some ([S_PrepressFinding.mk [97] false [[116,111,116,97,108]]],0):=by
    unfold prepress_Judge
    rw [fact_check hF,call_some,bne_self_eq_false,cond_false,h1,call_some,bne_self_eq_false,cond_false,h2,call_some]
  unfold law3_ruleFact law3_rule
  rw [call_some,h3,call_some]
  rfl
end Go.Vm.PreG
