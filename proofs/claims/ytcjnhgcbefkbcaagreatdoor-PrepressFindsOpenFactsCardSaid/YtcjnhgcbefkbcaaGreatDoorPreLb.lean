/-
  PREPRESS,PLAIN,part 2: comparisons; conditions without an error.
-/
import Derived.Test.YtcjnhgcbefkbcaaGreatDoorPreLa
namespace Go.Vm.PreG
abbrev t0:S_PrepressTerm:=S_PrepressTerm.mk 0 []
abbrev c0:S_PrepressCond:=S_PrepressCond.mk 0 [] 0 0 []
/-- A term without an error. -/
structure TermOk (t:S_PrepressTerm):Prop where
  nz:t.f0≠0
  lo : -1000≤t.f0
  hi:t.f0≤1000
  name:nm t.f1=true
theorem getD_dropT {α:Type} {l:List α} {d:α} {i:Nat} (hi:i < l.length):l.drop i=l.getD i d :: l.drop (i+1):=by
  rw [List.getD_eq_getElem?_getD,List.getElem?_eq_getElem hi]
  exact List.drop_eq_getElem_cons hi
theorem findTerm_L0 (F:Nat) (l:List S_PrepressTerm) (k:Int) (x:List UInt8) (hl:l.length≤4294967296):∀ (m i n:Nat),i+m=l.length→m < n→∃ o,slices_IndexFunc_PrepressTerm_L0 F l n (i:Int) k x=some o∧((∃ j:Nat,o=.esc ((j:Int),k,x))∧(l.drop i).any (fun t=>t.f1 == x)=true∨o=.go (k,x)∧(l.drop i).any (fun t=>t.f1 == x)=false):=by
  intro m
  induction m with
  | zero =>
    intro i n hi hn
    obtain ⟨n,rfl⟩:∃ q,n=q+1:=⟨n - 1,by omega⟩
    obtain rfl:i=l.length:=by omega
    exact ⟨.go (k,x),by rw [slices_IndexFunc_PrepressTerm_L0,dec_end,cond_false],.inr ⟨rfl,by simp⟩⟩
  | succ m ih =>
    intro i n hi hn
    obtain ⟨n,rfl⟩:∃ q,n=q+1:=⟨n - 1,by omega⟩
    have hlt:i < l.length:=by omega
    rw [slices_IndexFunc_PrepressTerm_L0,dec_lt hlt,cond_true,chk_in hlt,nat_toNat,wrap_succ (by omega),getD_dropT (d:=t0) hlt]
    unfold prepress_compare_c1
    rw [call_some]
    cases h:(l.getD i t0).f1 == x with
    | true=>exact ⟨.esc (i,k,x),by rw [cond_true],.inl ⟨⟨i,rfl⟩,by simp only [List.any_cons,h,Bool.true_or]⟩⟩
    | false =>
      rw [cond_false]
      simp only [List.any_cons,h,Bool.false_or]
      exact ih (i+1) n (by omega) (by omega)
theorem findTerm_eq {F:Nat} {l:List S_PrepressTerm} {k:Int} {x:List UInt8} (hl:l.length≤4294967296) (hF:l.length < F):slices_ContainsFunc_PrepressTerm F l k x=some (l.any (fun t=>t.f1 == x),k,x):=by
  unfold slices_ContainsFunc_PrepressTerm slices_IndexFunc_PrepressTerm
  obtain ⟨o,h1,h2⟩:=findTerm_L0 F l k x hl l.length 0 F (by omega) (by omega)
  have h1':slices_IndexFunc_PrepressTerm_L0 F l F (0:Int) k x=some o:=h1
  rw [h1']
  simp only [List.drop_zero] at h2
  rcases h2 with ⟨⟨j,rfl⟩,h⟩ | ⟨rfl,h⟩
  · rw [callE_esc',call_some,h,decide_eq_true (by omega)]
  · rw [callE_go,call_some,h]
    rfl
theorem refFind_L3 (F:Nat) (a0:S_PrepressCond) (k:Nat) (hl:a0.f1.length≤4294967296) (hk:k≤a0.f1.length):∀ (m i n:Nat),i+m=k→m < n→ref3_compareError_L3 F a0 (k:Int) n (i:Int)=some (bif ((a0.f1.take k).drop i).any (fun t=>t.f1 == (a0.f1.getD k t0).f1) then .esc 7 else .go ()):=by
  have htl:(a0.f1.take k).length=k:=by simp; omega
  intro m
  induction m with
  | zero =>
    intro i n hi hn
    obtain ⟨n,rfl⟩:∃ q,n=q+1:=⟨n - 1,by omega⟩
    have e:(a0.f1.take k).drop i=[]:=by rw [List.drop_eq_nil_of_le]; omega
    rw [ref3_compareError_L3,e]
    simp only [nat_toNat,show (0:Int).toNat=0 from rfl,List.drop_zero,Nat.sub_zero,htl]
    rw [decide_eq_false (by omega)]
    rfl
  | succ m ih =>
    intro i n hi hn
    obtain ⟨n,rfl⟩:∃ q,n=q+1:=⟨n - 1,by omega⟩
    have hlt:i < (a0.f1.take k).length:=by omega
    rw [ref3_compareError_L3,getD_dropT (d:=t0) hlt]
    simp only [nat_toNat,show (0:Int).toNat=0 from rfl,List.drop_zero,Nat.sub_zero]
    rw [dec_lt hlt,cond_true,chk_in hlt,lett_eq,wrap_succ (by omega),ih (i+1) n (by omega) (by omega),List.any_cons]
    cases ((a0.f1.take k).getD i t0).f1 == (a0.f1.getD k t0).f1 <;> rfl
theorem beyond_one {F:Nat} (hF:2≤F) (a x:Int) (ha:0≤a∧a≤4294967296):ref3_beyond F a [x]=some (bif decide (x > a) then true else decide (x < -a)):=by
  obtain ⟨G,rfl⟩:∃ q,F=q+2:=⟨F - 2,by omega⟩
  unfold ref3_beyond
  rw [ref3_beyond_L0]
  have e:IntKind.i64.wrap (0 - a) = -a:=by rw [wrap_id (by omega)]; omega
  have e2:IntKind.i64.wrap ((0:Int)+1)=1:=rfl
  rw [decide_eq_true (by simp),cond_true,chk_pos (by simp),lett_eq,show (0:Int).toNat=0 from rfl,List.getD_cons_zero,e,e2]
  cases h:(bif decide (x > a) then true else decide (x < -a))
  · rw [cond_false,ref3_beyond_L0,decide_eq_false (by simp),cond_false,callE_go]
  · rw [cond_true,callE_esc']
/-- The names of terms are as long as strings are. -/
def SmT (c:S_PrepressCond):Prop:=c.f1.length≤maxLen∧∀ t∈c.f1,t.f1.length≤maxLen
theorem terms_eq {F:Nat} (hF:maxLen < F) {a0:S_PrepressCond} (hs:SmT a0) (h8:a0.f1.length≤8):∀ (m i n:Nat),i+m=a0.f1.length→m < n →
    (∃ e:Int,e≠0∧prepress_compare_L1 F a0 n (i:Int)=some (.esc e)∧ref3_compareError_L1 F a0 n (i:Int)=some (.esc e)) ∨
    (prepress_compare_L1 F a0 n (i:Int)=some (.go ())∧ref3_compareError_L1 F a0 n (i:Int)=some (.go ())∧∀ t∈a0.f1.drop i,TermOk t):=by
  have hmax:maxLen=9223372036854775807:=rfl
  intro m
  induction m with
  | zero =>
    intro i n hi hn
    obtain ⟨n,rfl⟩:∃ q,n=q+1:=⟨n - 1,by omega⟩
    obtain rfl:i=a0.f1.length:=by omega
    refine .inr ⟨?_,?_,by simp⟩
    · rw [prepress_compare_L1,dec_end,cond_false]
    · rw [ref3_compareError_L1,dec_end,cond_false]
  | succ m ih =>
    intro i n hi hn
    obtain ⟨n,rfl⟩:∃ q,n=q+1:=⟨n - 1,by omega⟩
    have hlt:i < a0.f1.length:=by omega
    have hmem:a0.f1.getD i t0∈a0.f1:=by
      rw [List.getD_eq_getElem?_getD,List.getElem?_eq_getElem hlt]
      exact List.getElem_mem hlt
    have hsl:=hs.2 _ hmem
    have hcut:0≤(0:Int)∧(0:Int)≤(i:Int)∧(i:Int)≤(a0.f1.length:Int):=⟨by omega,by omega,by omega⟩
    have hR:=refFind_L3 F a0 i (by omega) (by omega) i 0 F (by omega) (by omega)
    have hR':ref3_compareError_L3 F a0 (i:Int) F (0:Int)=some (bif (a0.f1.take i).any (fun t=>t.f1 == (a0.f1.getD i t0).f1) then .esc 7 else .go ()):=by simpa using hR
    have hP:=findTerm_eq (F:=F) (l:=a0.f1.take i) (k:=(a0.f1.getD i t0).f0) (x:=(a0.f1.getD i t0).f1) (by simp; omega) (by simp; omega)
    have hB:=beyond_one (F:=F) (by omega) 1000 (a0.f1.getD i t0).f0 (by omega)
    rw [prepress_compare_L1,ref3_compareError_L1,dec_lt hlt,cond_true,cond_true,chk_in hlt,chk_in hlt,lett_eq,lett_eq,nat_toNat,show (0:Int).toNat=0 from rfl,List.drop_zero,Nat.sub_zero,plain_eq hsl hF,ruleName_eq hsl hF,call_some,call_some,chk_pos hcut,chk_pos hcut,hP,hR',hB,wrap_succ (by omega),getD_dropT (d:=t0) hlt]
    generalize ht:a0.f1.getD i t0=t at *
    by_cases hz:t.f0=0∨t.f0 < -1000∨t.f0 > 1000
    · refine .inl ⟨3,by decide,?_,?_⟩
      · have:(bif (bif t.f0 == 0 then true else decide (t.f0 < -1000)) then true else decide (t.f0 > 1000))=true:=by
          rcases hz with h | h | h
          · rw [h]; rfl
          · rw [decide_eq_true h]; cases t.f0 == 0 <;> rfl
          · rw [decide_eq_true h]; cases t.f0 == 0 <;> cases decide (t.f0 < -1000) <;> rfl
        rw [this,cond_true]
      · by_cases h0:t.f0=0
        · rw [h0]; rfl
        · have hb:(t.f0 == 0)=false:=by simpa using h0
          have:(bif decide (t.f0 > 1000) then true else decide (t.f0 < -1000))=true:=by
            rcases hz with h | h | h
            · exact absurd h h0
            · rw [decide_eq_true h]; cases decide (t.f0 > 1000) <;> rfl
            · rw [decide_eq_true h]; rfl
          rw [hb]
          simp only [beq_self_eq_true,Bool.and_true,cond_true,cond_false,call_some,this]
    · have hb:(t.f0 == 0)=false:=by simp; omega
      have h1:(bif (bif t.f0 == 0 then true else decide (t.f0 < -1000)) then true else decide (t.f0 > 1000))=false:=by
        rw [hb,decide_eq_false (by omega),decide_eq_false (by omega)]; rfl
      have h2:(bif decide (t.f0 > 1000) then true else decide (t.f0 < -1000))=false:=by
        rw [decide_eq_false (by omega),decide_eq_false (by omega)]; rfl
      rw [h1,hb]
      simp only [beq_self_eq_true,Bool.and_true,cond_true,cond_false,call_some]
      rw [show decide (t.f0 < -1000)=false from decide_eq_false (by omega),show decide (t.f0 > 1000)=false from decide_eq_false (by omega)]
      simp only [cond_false]
      cases hn2:nm t.f1 with
      | false=>exact .inl ⟨6,by decide,rfl,rfl⟩
      | true =>
        simp only [Bool.not_true,cond_false]
        cases (a0.f1.take i).any (fun t'=>t'.f1 == t.f1) with
        | true=>exact .inl ⟨7,by decide,rfl,rfl⟩
        | false =>
          simp only [cond_false,callE_go]
          rcases ih (i+1) n (by omega) (by omega) with h | ⟨h3,h4,h5⟩
          · exact .inl h
          · refine .inr ⟨h3,h4,fun x hx=>?_⟩
            rcases List.mem_cons.1 hx with rfl | hx
            · exact ⟨by omega,by omega,by omega,hn2⟩
            · exact h5 x hx
/-- A comparison without an error. -/
structure CmpOk (c:S_PrepressCond):Prop where
  none:c.f4=[]
  some:1≤c.f1.length
  many:c.f1.length≤8
  kind:0≤c.f2∧c.f2≤5
  than : -2147483648≤c.f3∧c.f3≤2147483648
  terms:∀ t∈c.f1,TermOk t
theorem compare_eq {F:Nat} (hF:maxLen < F) {a0:S_PrepressCond} (hs:SmT a0) :
    (∃ e:Int,e≠0∧prepress_compare F a0=some e∧ref3_compareError F a0=some e)∨(prepress_compare F a0=some 0∧ref3_compareError F a0=some 0∧CmpOk a0):=by
  have hmax:maxLen=9223372036854775807:=rfl
  unfold prepress_compare ref3_compareError
  by_cases h1:(a0.f4.length:Int) > 0
  · rw [decide_eq_true h1]; exact .inl ⟨4,by decide,rfl,rfl⟩
  rw [decide_eq_false h1,cond_false,cond_false]
  by_cases h2:a0.f1.length=0
  · have:((a0.f1.length:Int) == 0)=true:=by simpa using h2
    rw [this]; exact .inl ⟨8,by decide,rfl,rfl⟩
  have h2':((a0.f1.length:Int) == 0)=false:=by simpa using h2
  rw [h2',cond_false,cond_false]
  by_cases h3:(a0.f1.length:Int) > 8
  · rw [decide_eq_true h3]; exact .inl ⟨2,by decide,rfl,rfl⟩
  rw [decide_eq_false h3,cond_false,cond_false]
  cases h4:(bif (decide (a0.f2 < (0:Int))) then true else (decide (a0.f2 > (5:Int)))) with
  | true=>exact .inl ⟨14,by decide,rfl,rfl⟩
  | false =>
    have h4':0≤a0.f2∧a0.f2≤5:=by
      simp only [or_cond,Bool.or_eq_false_iff,decide_eq_false_iff_not] at h4
      omega
    rw [cond_false,cond_false,beyond_one (by omega) 2147483648 _ (by omega),call_some]
    by_cases h5:a0.f3 < -2147483648∨a0.f3 > 2147483648
    · have e1:(bif (decide (a0.f3 < (-2147483648:Int))) then true else (decide (a0.f3 > (2147483648:Int))))=true:=by
        rw [or_cond]; simpa using h5
      have e2:(bif (decide (a0.f3 > (2147483648:Int))) then true else (decide (a0.f3 < (-2147483648:Int))))=true:=by
        rw [or_cond]; simpa using h5.symm
      rw [e1,e2]
      exact .inl ⟨3,by decide,rfl,rfl⟩
    · have e1:(bif (decide (a0.f3 < (-2147483648:Int))) then true else (decide (a0.f3 > (2147483648:Int))))=false:=by
        rw [decide_eq_false (by omega),decide_eq_false (by omega)]; rfl
      have e2:(bif (decide (a0.f3 > (2147483648:Int))) then true else (decide (a0.f3 < (-2147483648:Int))))=false:=by
        rw [decide_eq_false (by omega),decide_eq_false (by omega)]; rfl
      rw [e1,e2,cond_false,cond_false]
      rcases terms_eq hF hs (by omega) a0.f1.length 0 F (by omega) (by omega) with ⟨e,he,h6,h7⟩ | ⟨h6,h7,h8⟩
      · have h6':prepress_compare_L1 F a0 F (0:Int)=some (.esc e):=h6
        have h7':ref3_compareError_L1 F a0 F (0:Int)=some (.esc e):=h7
        rw [h6',h7']
        exact .inl ⟨e,he,rfl,rfl⟩
      · have h6':prepress_compare_L1 F a0 F (0:Int)=some (.go ()):=h6
        have h7':ref3_compareError_L1 F a0 F (0:Int)=some (.go ()):=h7
        rw [h6',h7']
        refine .inr ⟨rfl,rfl,?_,by omega,by omega,h4',by omega,by simpa using h8⟩
        exact List.eq_nil_of_length_eq_zero (by omega)
end Go.Vm.PreG
