/-
  PREPRESS,PLAIN,part 7: facts,and what they tell of a condition.
-/
import Derived.Test.YtcjnhgcbefkbcaaGreatDoorPreLf
namespace Go.Vm.PreG
abbrev fa0:S_PrepressFact:=S_PrepressFact.mk [] 0
def SmF (l:List S_PrepressFact):Prop:=∀ f∈l,f.f0.length≤maxLen
structure FactsOk (l:List S_PrepressFact):Prop where
  len:l.length≤64
  each:∀ f∈l,nm f.f0=true ∧ -2147483648≤f.f1∧f.f1≤2147483648
  srt:l.Pairwise (fun a b=>Op.bytesLess a.f0 b.f0=true)
theorem facts_L0 {F:Nat} (hF:maxLen < F) {l:List S_PrepressFact} (hs:SmF l) (h64:l.length≤64):∀ (m i n:Nat),i+m=l.length→m < n →
    (∃ e:Int,e≠0∧prepress_CheckFacts_L0 F l n (i:Int)=some (.esc e)∧ref3_FactsError_L0 F l n (i:Int)=some (.esc e)) ∨
    (prepress_CheckFacts_L0 F l n (i:Int)=some (.go ())∧ref3_FactsError_L0 F l n (i:Int)=some (.go ())∧(∀ f∈l.drop i,nm f.f0=true ∧ -2147483648≤f.f1∧f.f1≤2147483648)∧∀ j,i≤j+1→j+1 < l.length→Op.bytesLess (l.getD j fa0).f0 (l.getD (j+1) fa0).f0=true):=by
  have hmax:maxLen=9223372036854775807:=rfl
  intro m
  induction m with
  | zero =>
    intro i n hi hn
    obtain ⟨n,rfl⟩:∃ q,n=q+1:=⟨n - 1,by omega⟩
    obtain rfl:i=l.length:=by omega
    refine .inr ⟨?_,?_,by simp,fun j _ _=>by omega⟩
    · rw [prepress_CheckFacts_L0,dec_end,cond_false]
    · rw [ref3_FactsError_L0,dec_end,cond_false]
  | succ m ih =>
    intro i n hi hn
    obtain ⟨n,rfl⟩:∃ q,n=q+1:=⟨n - 1,by omega⟩
    have hlt:i < l.length:=by omega
    have hmem:l.getD i fa0∈l:=by
      rw [List.getD_eq_getElem?_getD,List.getElem?_eq_getElem hlt]
      exact List.getElem_mem hlt
    have hsl:=hs _ hmem
    have hw:(decide ((i:Int) > 0) == true && true)=true→0≤IntKind.i64.wrap ((i:Int) - 1)∧IntKind.i64.wrap ((i:Int) - 1) < l.length:=by
      intro h
      have:(i:Int) > 0:=by simpa using h
      rw [wrap_id (by omega)]
      omega
    rw [prepress_CheckFacts_L0,ref3_FactsError_L0,dec_lt hlt,cond_true,cond_true,chk_in hlt,chk_in hlt,nat_toNat,plain_eq hsl hF,ruleName_eq hsl hF,call_some,call_some,lett_eq,beyond_one (by omega) _ _ (by omega),call_some,chk_pos hw,chk_pos hw,lett_eq,lett_eq,wrap_succ (by omega),getD_dropT (d:=fa0) hlt]
    cases hn2:nm (l.getD i fa0).f0 with
    | false=>exact .inl ⟨6,by decide,rfl,rfl⟩
    | true =>
      simp only [Bool.not_true,cond_false]
      by_cases hr : -2147483648≤(l.getD i fa0).f1∧(l.getD i fa0).f1≤2147483648
      · rw [decide_eq_false (show ¬ (l.getD i fa0).f1 < -2147483648 by omega),decide_eq_false (show ¬ (l.getD i fa0).f1 > 2147483648 by omega)]
        simp only [cond_false]
        by_cases h0:i=0
        · subst h0
          rw [decide_eq_false (by omega)]
          simp only [cond_false]
          rcases ih 1 n (by omega) (by omega) with h | ⟨h4,h5,h6,h7⟩
          · exact .inl h
          · refine .inr ⟨h4,h5,fun x hx=>?_,fun j hj1 hj2=>h7 j (by omega) hj2⟩
            rcases List.mem_cons.1 hx with rfl | hx
            · exact ⟨hn2,hr⟩
            · exact h6 x hx
        · obtain ⟨k,rfl⟩:∃ k,i=k+1:=⟨i - 1,by omega⟩
          have e1:IntKind.i64.wrap (((k+1:Nat):Int) - 1)=(k:Int):=by
            rw [wrap_id (by omega)]; omega
          rw [decide_eq_true (by omega),e1,nat_toNat,bL_tri]
          simp only [cond_true]
          cases ho:(Op.bytesLess (l.getD (k+1) fa0).f0 (l.getD k fa0).f0 || (l.getD (k+1) fa0).f0 == (l.getD k fa0).f0) with
          | true=>exact .inl ⟨18,by decide,rfl,rfl⟩
          | false =>
            rw [cond_false,cond_false]
            rcases ih (k+2) n (by omega) (by omega) with h | ⟨h4,h5,h6,h7⟩
            · exact .inl h
            · refine .inr ⟨h4,h5,fun x hx=>?_,fun j hj1 hj2=>?_⟩
              · rcases List.mem_cons.1 hx with rfl | hx
                · exact ⟨hn2,hr⟩
                · exact h6 x hx
              · by_cases hj:j=k
                · subst hj
                  have:=bL_tri (l.getD j fa0).f0 (l.getD (j+1) fa0).f0
                  rw [ho] at this
                  simpa using this
                · exact h7 j (by omega) hj2
      · have hb:(bif decide ((l.getD i fa0).f1 < -2147483648) then true else decide ((l.getD i fa0).f1 > 2147483648))=true:=by
          by_cases h:(l.getD i fa0).f1 < -2147483648
          · rw [decide_eq_true h]; rfl
          · rw [decide_eq_false h,decide_eq_true (show (l.getD i fa0).f1 > 2147483648 by omega)]; rfl
        have hb2:(bif decide ((l.getD i fa0).f1 > 2147483648) then true else decide ((l.getD i fa0).f1 < -2147483648))=true:=by
          by_cases h:(l.getD i fa0).f1 > 2147483648
          · rw [decide_eq_true h]; rfl
          · rw [decide_eq_false h,decide_eq_true (show (l.getD i fa0).f1 < -2147483648 by omega)]; rfl
        rw [hb,hb2,cond_true,cond_true]
        exact .inl ⟨3,by decide,rfl,rfl⟩
theorem pairwise_of_steps {l:List S_PrepressFact} (h:∀ j,j+1 < l.length→Op.bytesLess (l.getD j fa0).f0 (l.getD (j+1) fa0).f0=true):l.Pairwise (fun a b=>Op.bytesLess a.f0 b.f0=true):=by
  have far:∀ d i,i+d+1 < l.length→Op.bytesLess (l.getD i fa0).f0 (l.getD (i+d+1) fa0).f0=true:=by
    intro d
    induction d with
    | zero=>intro i hi; exact h i hi
    | succ d ih=>intro i hi; exact bL_trans (ih i (by omega)) (h (i+d+1) (by omega))
  rw [List.pairwise_iff_getElem]
  intro i j hi hj hij
  have:=far (j - i - 1) i (by omega)
  rw [show i+(j - i - 1)+1=j by omega] at this
  simpa [List.getD_eq_getElem?_getD,List.getElem?_eq_getElem,hi,hj] using this
/-- Both find the same first error of facts. -/
theorem facts_eq {F:Nat} (hF:maxLen < F) {l:List S_PrepressFact} (hs:SmF l) :
    ∃ e:Int,prepress_CheckFacts F l=some e∧ref3_FactsError F l=some e∧(e=0→FactsOk l):=by
  have hmax:maxLen=9223372036854775807:=rfl
  unfold prepress_CheckFacts ref3_FactsError
  by_cases h1:(l.length:Int) > 64
  · rw [decide_eq_true h1]
    exact ⟨2,rfl,rfl,fun h=>absurd h (by decide)⟩
  rw [decide_eq_false h1,cond_false,cond_false]
  rcases facts_L0 hF hs (by omega) l.length 0 F (by omega) (by omega) with ⟨e,he,h2,h3⟩ | ⟨h2,h3,h4,h5⟩
  · have h2':prepress_CheckFacts_L0 F l F (0:Int)=some (.esc e):=h2
    have h3':ref3_FactsError_L0 F l F (0:Int)=some (.esc e):=h3
    rw [h2',h3']
    exact ⟨e,rfl,rfl,fun h=>absurd h he⟩
  · have h2':prepress_CheckFacts_L0 F l F (0:Int)=some (.go ()):=h2
    have h3':ref3_FactsError_L0 F l F (0:Int)=some (.go ()):=h3
    rw [h2',h3']
    exact ⟨0,rfl,rfl,fun _=>⟨by omega,by simpa using h4,pairwise_of_steps fun j hj=>h5 j (by omega) hj⟩⟩
/-! ## Looking facts up -/
def look (l:List S_PrepressFact) (x:List UInt8):Option Int:=(l.find? (fun f=>f.f0 == x)).map (·.f1)
theorem compare_str (F:Nat) (a b:List UInt8):cmp_Compare_string F a b=some (bif Op.bytesLess a b then -1 else bif a == b then 0 else 1):=by
  unfold cmp_Compare_string cmp_isNaN_string
  simp only [call_some,beq_self_eq_true,Bool.not_true,cond_false]
  cases h1:Op.bytesLess a b
  · cases h2:(a == b) <;> simp
  · simp
theorem less_ne {a b:List UInt8} (h:Op.bytesLess a b=true):(a == b)=false:=by
  cases e:a == b
  · rfl
  · have:=eq_of_beq e
    subst this
    rw [bL_irr] at h
    cases h
theorem half (i j:Nat) (h:i < j) (hj:j≤64):IntKind.i64.wrap ((IntKind.u64.wrap (IntKind.i64.wrap ((i:Int)+(j:Int)))).fdiv (2 ^ (min (1:Int).toNat IntKind.u64.bits)))=(((i+j) / 2:Nat):Int):=by
  have e0:IntKind.i64.wrap ((i:Int)+(j:Int))=((i+j:Nat):Int):=by rw [wrap_id (by omega)]; omega
  have e:IntKind.u64.wrap ((i+j:Nat):Int)=((i+j:Nat):Int):=by
    have e2:(2:Int) ^ 64=18446744073709551616:=by decide
    exact Int.emod_eq_of_lt (by omega) (show ((i+j:Nat):Int) < 2 ^ 64 by omega)
  have e3:(2:Int) ^ (min (1:Int).toNat IntKind.u64.bits)=2:=by decide
  rw [e0,e,e3,Int.fdiv_eq_ediv_of_nonneg _ (by omega),wrap_id (by omega)]
  omega
theorem search_L0 {F:Nat} {l:List S_PrepressFact} {x:List UInt8} (hok:FactsOk l):∀ (m i j n:Nat),i≤j→j≤l.length→j - i≤m→m < n →
    (∀ k,k < i→Op.bytesLess (l.getD k fa0).f0 x=true)→(∀ k,j≤k→k < l.length→Op.bytesLess (l.getD k fa0).f0 x=false) →
    ∃ p:Nat,slices_BinarySearchFunc_string_L0 F l x n (i:Int) (j:Int)=some (p:Int)∧p≤l.length∧(∀ k,k < p→Op.bytesLess (l.getD k fa0).f0 x=true)∧(∀ k,p≤k→k < l.length→Op.bytesLess (l.getD k fa0).f0 x=false):=by
  have hlen:=hok.len
  have hsrt:∀ i j,i < j→j < l.length→Op.bytesLess (l.getD i fa0).f0 (l.getD j fa0).f0=true:=by
    intro i j hij hj
    have:=List.pairwise_iff_getElem.1 hok.srt i j (by omega) hj hij
    rw [List.getD_eq_getElem?_getD,List.getD_eq_getElem?_getD,List.getElem?_eq_getElem hj,List.getElem?_eq_getElem (show i < l.length by omega)]
    exact this
  intro m
  induction m with
  | zero =>
    intro i j n hij hj hm hn h1 h2
    obtain ⟨n,rfl⟩:∃ q,n=q+1:=⟨n - 1,by omega⟩
    rw [slices_BinarySearchFunc_string_L0,decide_eq_false (by omega),cond_false]
    exact ⟨i,rfl,by omega,h1,fun k hk hk2=>h2 k (by omega) hk2⟩
  | succ m ih =>
    intro i j n hij hj hm hn h1 h2
    obtain ⟨n,rfl⟩:∃ q,n=q+1:=⟨n - 1,by omega⟩
    rw [slices_BinarySearchFunc_string_L0]
    by_cases hlt:i < j
    · rw [decide_eq_true (by omega),cond_true,lett_eq,half i j hlt (by omega),chk_pos (by omega)]
      unfold prepress_known_value_c1
      rw [nat_toNat,compare_str,call_some,call_some,wrap_succ (by omega)]
      cases hl:Op.bytesLess (l.getD ((i+j) / 2) fa0).f0 x with
      | true =>
        rw [cond_true,decide_eq_true (by omega),cond_true]
        refine ih ((i+j) / 2+1) j n (by omega) hj (by omega) (by omega) (fun k hk=>?_) h2
        by_cases hk2:k=(i+j) / 2
        · rw [hk2]; exact hl
        · exact bL_trans (hsrt k ((i+j) / 2) (by omega) (by omega)) hl
      | false =>
        have hneg:decide ((bif (l.getD ((i+j) / 2) fa0).f0 == x then (0:Int) else 1) < 0)=false:=by
          cases (l.getD ((i+j) / 2) fa0).f0 == x <;> rfl
        rw [cond_false,hneg,cond_false]
        refine ih i ((i+j) / 2) n (by omega) (by omega) (by omega) (by omega) h1 (fun k hk hk2=>?_)
        by_cases hk3:k=(i+j) / 2
        · rw [hk3]; exact hl
        · cases hq:Op.bytesLess (l.getD k fa0).f0 x with
          | false=>rfl
          | true=>rw [bL_trans (hsrt ((i+j) / 2) k (by omega) hk2) hq] at hl; cases hl
    · rw [decide_eq_false (by omega),cond_false]
      exact ⟨i,rfl,by omega,h1,fun k hk hk2=>h2 k (by omega) hk2⟩
theorem find_at {l:List S_PrepressFact} {x:List UInt8} {p:Nat} (hp:p < l.length) (h1:∀ k,k < p→((l.getD k fa0).f0 == x)=false) (h2:((l.getD p fa0).f0 == x)=true):look l x=some (l.getD p fa0).f1:=by
  unfold look
  have:l.find? (fun f=>f.f0 == x)=some (l.getD p fa0):=by
    rw [List.find?_eq_some_iff_getElem]
    refine ⟨h2,p,hp,?_,fun k hk=>?_⟩
    · rw [List.getD_eq_getElem?_getD,List.getElem?_eq_getElem hp]; rfl
    · have:=h1 k hk
      rw [List.getD_eq_getElem?_getD,List.getElem?_eq_getElem (show k < l.length by omega)] at this
      simpa using this
  rw [this]
  rfl
theorem find_none {l:List S_PrepressFact} {x:List UInt8} (h:∀ k,k < l.length→((l.getD k fa0).f0 == x)=false):look l x=none:=by
  unfold look
  have:l.find? (fun f=>f.f0 == x)=none:=by
    rw [List.find?_eq_none]
    intro f hf
    obtain ⟨k,hk,rfl⟩:=List.getElem_of_mem hf
    have:=h k hk
    rw [List.getD_eq_getElem?_getD,List.getElem?_eq_getElem hk] at this
    simpa using this
  rw [this]
  rfl
theorem value_eq {F:Nat} (hF:maxLen < F) {l:List S_PrepressFact} (hok:FactsOk l) (x:List UInt8):prepress_known_value F l x=some ((look l x).getD 0,(look l x).isSome):=by
  have hmax:maxLen=9223372036854775807:=rfl
  have hlen:=hok.len
  obtain ⟨p,h1,h2,h3,h4⟩:=search_L0 (F:=F) (x:=x) hok l.length 0 l.length F (by omega) (by omega) (by omega) (by omega) (fun k hk=>by omega) (fun k hk hk2=>by omega)
  have h1':slices_BinarySearchFunc_string_L0 F l x F (0:Int) (l.length:Int)=some (p:Int):=h1
  unfold prepress_known_value slices_BinarySearchFunc_string
  rw [h1',call_some]
  by_cases hp:p < l.length
  · rw [decide_eq_true (by omega),chk_pos (by simp; omega)]
    unfold prepress_known_value_c1
    rw [nat_toNat,compare_str]
    simp only [beq_self_eq_true,Bool.and_self,cond_true,call_some]
    rw [h4 p (Nat.le_refl _) hp,cond_false]
    cases he:(l.getD p fa0).f0 == x with
    | true =>
      rw [cond_true,find_at hp (fun k hk=>less_ne (h3 k hk)) he]
      simp only [beq_self_eq_true,Bool.not_true,cond_false,nat_toNat,Option.getD_some,Option.isSome_some]
      rw [chk_pos (by omega)]
    | false =>
      have:look l x=none:=by
        refine find_none fun k hk=>?_
        by_cases hkp:k < p
        · exact less_ne (h3 k hkp)
        · by_cases hkp2:k=p
          · rw [hkp2]; exact he
          · cases hq:(l.getD k fa0).f0 == x with
            | false=>rfl
            | true =>
              have hs:=List.pairwise_iff_getElem.1 hok.srt p k hp hk (by omega)
              have h5:=h4 p (Nat.le_refl _) hp
              rw [List.getD_eq_getElem?_getD,List.getElem?_eq_getElem hp] at h5
              rw [List.getD_eq_getElem?_getD,List.getElem?_eq_getElem hk] at hq
              have hq2:l[k].f0=x:=eq_of_beq hq
              rw [hq2] at hs
              simp only [Option.getD_some] at h5
              rw [hs] at h5
              cases h5
      rw [this,cond_false]
      rfl
  · have:look l x=none:=find_none fun k hk=>less_ne (h3 k (by omega))
    rw [decide_eq_false (by omega),chk_pos (by simp),this]
    rfl
/-! ## Sums -/
def sumT (l:List S_PrepressFact):List S_PrepressTerm→Int→Option Int
  | [],s=>some s
  | t :: r,s=>match look l t.f1 with
    | none=>none
    | some v=>sumT l r (IntKind.i64.wrap (s+IntKind.i64.wrap (t.f0 * v)))
theorem truth_L2_eq {F:Nat} (hF:maxLen < F) {c:S_PrepressCond} {l:List S_PrepressFact} (hok:FactsOk l) (h8:c.f1.length≤8):∀ (m i n:Nat) (s:Int),i+m=c.f1.length→m < n →
    prepress_truth_L2 F c l n s (i:Int)=some (match sumT l (c.f1.drop i) s with | none=>.esc 2 | some z=>.go z):=by
  intro m
  induction m with
  | zero =>
    intro i n s hi hn
    obtain ⟨n,rfl⟩:∃ q,n=q+1:=⟨n - 1,by omega⟩
    obtain rfl:i=c.f1.length:=by omega
    rw [prepress_truth_L2,dec_end,cond_false,List.drop_length]
    rfl
  | succ m ih =>
    intro i n s hi hn
    obtain ⟨n,rfl⟩:∃ q,n=q+1:=⟨n - 1,by omega⟩
    have hlt:i < c.f1.length:=by omega
    rw [prepress_truth_L2,dec_lt hlt,cond_true,chk_in hlt,nat_toNat,value_eq hF hok,call_some,getD_dropT (d:=t0) hlt,wrap_succ (by omega),sumT]
    cases look l (c.f1.getD i t0).f1 with
    | none=>rfl
    | some v =>
      simp only [Option.isSome_some,Bool.not_true,cond_false,Option.getD_some,lett_eq]
      exact ih (i+1) n _ (by omega) (by omega)
theorem look_cons (f:S_PrepressFact) (l:List S_PrepressFact) (x:List UInt8):look (f :: l) x=bif f.f0 == x then some f.f1 else look l x:=by
  unfold look
  rw [List.find?_cons]
  cases f.f0 == x <;> rfl
theorem Can_L3_eq {F:Nat} {c:S_PrepressCond} {l:List S_PrepressFact} {k:Nat} (h64:l.length≤4294967296) (hsrt:l.Pairwise (fun a b=>Op.bytesLess a.f0 b.f0=true)):∀ (m i n:Nat) (s:Int) (b:Bool),i+m=l.length→m < n →
    ref3_Can_L3 F c l (k:Int) n s b (i:Int)=some (match look (l.drop i) (c.f1.getD k t0).f1 with | none=>(s,b) | some v=>(IntKind.i64.wrap (s+IntKind.i64.wrap ((c.f1.getD k t0).f0 * v)),true)):=by
  intro m
  induction m with
  | zero =>
    intro i n s b hi hn
    obtain ⟨n,rfl⟩:∃ q,n=q+1:=⟨n - 1,by omega⟩
    obtain rfl:i=l.length:=by omega
    rw [ref3_Can_L3,dec_end,cond_false,List.drop_length]
    rfl
  | succ m ih =>
    intro i n s b hi hn
    obtain ⟨n,rfl⟩:∃ q,n=q+1:=⟨n - 1,by omega⟩
    have hlt:i < l.length:=by omega
    rw [ref3_Can_L3,dec_lt hlt,cond_true,chk_in hlt,nat_toNat,nat_toNat,lett_eq,wrap_succ (by omega),getD_dropT (d:=fa0) hlt,look_cons]
    cases he:(l.getD i fa0).f0 == (c.f1.getD k t0).f1 with
    | false =>
      simp only [cond_false,call_some]
      exact ih (i+1) n s b (by omega) (by omega)
    | true =>
      have hno:look (l.drop (i+1)) (c.f1.getD k t0).f1=none:=by
        refine find_none fun q hq=>?_
        have hq2:i+1+q < l.length:=by simp at hq; omega
        have hp:=List.pairwise_iff_getElem.1 hsrt i (i+1+q) hlt hq2 (by omega)
        have e1:(l.drop (i+1)).getD q fa0=l[i+1+q]:=by
          rw [List.getD_eq_getElem?_getD,List.getElem?_drop,List.getElem?_eq_getElem hq2]; rfl
        have e2:l.getD i fa0=l[i]:=by
          rw [List.getD_eq_getElem?_getD,List.getElem?_eq_getElem hlt]; rfl
        rw [e2] at he
        rw [e1,← eq_of_beq he]
        cases hz:l[i+1+q].f0 == l[i].f0 with
        | false=>rfl
        | true =>
          rw [eq_of_beq hz,bL_irr] at hp
          cases hp
      simp only [cond_true,lett_eq,call_some]
      rw [ih (i+1) n _ true (by omega) (by omega),hno]
theorem Can_L1_eq {F:Nat} (hF:maxLen < F) {c:S_PrepressCond} {l:List S_PrepressFact} (h64:l.length≤4294967296) (hsrt:l.Pairwise (fun a b=>Op.bytesLess a.f0 b.f0=true)) (h8:c.f1.length≤8):∀ (m i n:Nat) (s:Int),i+m=c.f1.length→m < n →
    ref3_Can_L1 F c l n s (i:Int)=some (match sumT l (c.f1.drop i) s with | none=>.esc false | some z=>.go z):=by
  have hmax:maxLen=9223372036854775807:=rfl
  intro m
  induction m with
  | zero =>
    intro i n s hi hn
    obtain ⟨n,rfl⟩:∃ q,n=q+1:=⟨n - 1,by omega⟩
    obtain rfl:i=c.f1.length:=by omega
    rw [ref3_Can_L1,dec_end,cond_false,List.drop_length]
    rfl
  | succ m ih =>
    intro i n s hi hn
    obtain ⟨n,rfl⟩:∃ q,n=q+1:=⟨n - 1,by omega⟩
    have hlt:i < c.f1.length:=by omega
    have h3:=Can_L3_eq (F:=F) (c:=c) (k:=i) h64 hsrt l.length 0 F s false (by omega) (by omega)
    have h3':ref3_Can_L3 F c l (i:Int) F s false (0:Int)=some (match look l (c.f1.getD i t0).f1 with | none=>(s,false) | some v=>(IntKind.i64.wrap (s+IntKind.i64.wrap ((c.f1.getD i t0).f0 * v)),true)):=by simpa using h3
    rw [ref3_Can_L1,dec_lt hlt,cond_true,chk_in hlt,h3',call_some,getD_dropT (d:=t0) hlt,wrap_succ (by omega),sumT]
    cases look l (c.f1.getD i t0).f1 with
    | none=>rfl
    | some v =>
      simp only [Bool.not_true,cond_false]
      exact ih (i+1) n _ (by omega) (by omega)
theorem compare_int (F:Nat) (a b:Int):cmp_Compare_int F a b=some (bif decide (a < b) then -1 else bif decide (a > b) then 1 else 0):=by
  unfold cmp_Compare_int cmp_isNaN_int
  simp only [call_some,bne_self_eq_false,cond_false]
  cases decide (a < b)
  · cases decide (a > b) <;> rfl
  · rfl
end Go.Vm.PreG
