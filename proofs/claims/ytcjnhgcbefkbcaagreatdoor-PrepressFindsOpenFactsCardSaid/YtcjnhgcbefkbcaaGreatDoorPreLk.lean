/-
  PREPRESS,PLAIN,part 11: of an open rule exactly the missing facts that it mentions are listed.
-/
import Derived.Test.YtcjnhgcbefkbcaaGreatDoorPreLj
import Derived.Test.YtcjnhgcbefkbcaaGreatDoorPreH
namespace Go.Vm.PreG
open Go.Sort
theorem judge_L3 {F:Nat} (hF:maxLen < F) {l:List S_PrepressFact} (hok:FactsOk l) (y:List (List UInt8)) (hy:y.length≤4294967296):∀ (m i n:Nat) (acc:List (List UInt8)),i+m=y.length→m < n→acc.length+m≤4294967296 →
    prepress_Judge_L3 F l y n acc (i:Int)=some (acc++(y.drop i).filter (fun s => !(look l s).isSome)):=by
  intro m
  induction m with
  | zero =>
    intro i n acc hi hn _
    obtain ⟨n,rfl⟩:∃ q,n=q+1:=⟨n - 1,by omega⟩
    obtain rfl:i=y.length:=by omega
    rw [prepress_Judge_L3,dec_end,cond_false,List.drop_length]; simp
  | succ m ih =>
    intro i n acc hi hn hacc
    obtain ⟨n,rfl⟩:∃ q,n=q+1:=⟨n - 1,by omega⟩
    have hlt:i < y.length:=by omega
    rw [prepress_Judge_L3,dec_lt hlt,cond_true,chk_in hlt,nat_toNat,value_eq hF hok,call_some,getD_dropT (d:=[]) hlt,wrap_succ (by omega),List.filter_cons]
    cases h:(look l (y.getD i [])).isSome with
    | true =>
      simp only [Bool.not_true,cond_false,call_some,Bool.false_eq_true,if_false]
      exact ih (i+1) n acc (by omega) (by omega) (by omega)
    | false =>
      simp only [Bool.not_false,cond_true,if_true]
      rw [chk_pos (by simp; omega),call_some,ih (i+1) n _ (by omega) (by omega) (by simp; omega)]
      simp
theorem less_str (F:Nat) (a b:List UInt8):cmp_Less_string F a b=some (Op.bytesLess a b):=by
  unfold cmp_Less_string cmp_isNaN_string
  simp only [call_some,beq_self_eq_true,Bool.not_true]
  rfl
theorem isSorted_eq {F:Nat} (hF:maxLen < F) {y:List (List UInt8)} (hy:y.length≤4294967296) (hs:y.Pairwise (fun a b=>Op.bytesLess a b=true)):slices_IsSorted_string F y=some true:=by
  have hmax:maxLen=9223372036854775807:=rfl
  have hd:∀ (i n:Nat),i < y.length→i < n→slices_IsSorted_string_L0 F y n (i:Int)=some (.go ()):=by
    intro i
    induction i with
    | zero =>
      intro n hi hn
      obtain ⟨n,rfl⟩:∃ q,n=q+1:=⟨n - 1,by omega⟩
      rw [slices_IsSorted_string_L0,decide_eq_false (by omega),cond_false]
    | succ i ih =>
      intro n hi hn
      obtain ⟨n,rfl⟩:∃ q,n=q+1:=⟨n - 1,by omega⟩
      have e1:IntKind.i64.wrap (((i+1:Nat):Int) - 1)=(i:Int):=by rw [wrap_id (by omega)]; omega
      have hp:=List.pairwise_iff_getElem.1 hs i (i+1) (by omega) hi (by omega)
      have e2:Op.bytesLess (y.getD (i+1) []) (y.getD i [])=false:=by
        rw [List.getD_eq_getElem?_getD,List.getD_eq_getElem?_getD,List.getElem?_eq_getElem hi,List.getElem?_eq_getElem (show i < y.length by omega)]
        simp only [Option.getD_some]
        cases h:Op.bytesLess y[i+1] y[i] with
        | false=>rfl
        | true=>have:=bL_trans hp h; rw [bL_irr] at this; cases this
      rw [slices_IsSorted_string_L0,decide_eq_true (by omega),cond_true,chk_in hi,e1,chk_in (show i < y.length by omega),nat_toNat,nat_toNat,less_str,call_some,e2,cond_false]
      exact ih n (by omega) (by omega)
  unfold slices_IsSorted_string
  by_cases h0:y.length=0
  · obtain ⟨G,rfl⟩:∃ q,F=q+1:=⟨F - 1,by omega⟩
    rw [wrap_id (by omega),slices_IsSorted_string_L0,decide_eq_false (by omega),cond_false,callE_go]
  · have e:IntKind.i64.wrap ((y.length:Int) - 1)=((y.length - 1:Nat):Int):=by rw [wrap_id (by omega)]; omega
    rw [e,hd (y.length - 1) F (by omega) (by omega),callE_go]
theorem findFact_L0 (F:Nat) (l:List S_PrepressFact) (x:List UInt8) (hl:l.length≤64) (hno:∀ f∈l,(f.f0 == x)=false):∀ (m i n:Nat),i+m=l.length→m < n →
    slices_IndexFunc_PrepressFact_L0 F l n (i:Int) x=some (.go x):=by
  intro m
  induction m with
  | zero =>
    intro i n hi hn
    obtain ⟨n,rfl⟩:∃ q,n=q+1:=⟨n - 1,by omega⟩
    obtain rfl:i=l.length:=by omega
    rw [slices_IndexFunc_PrepressFact_L0,dec_end,cond_false]
  | succ m ih =>
    intro i n hi hn
    obtain ⟨n,rfl⟩:∃ q,n=q+1:=⟨n - 1,by omega⟩
    have hlt:i < l.length:=by omega
    have hmem:l.getD i fa0∈l:=by
      rw [List.getD_eq_getElem?_getD,List.getElem?_eq_getElem hlt]
      exact List.getElem_mem hlt
    rw [slices_IndexFunc_PrepressFact_L0,dec_lt hlt,cond_true,chk_in hlt,nat_toNat]
    unfold law3_PrepressFindsOpenFacts_c1
    rw [call_some,hno _ hmem,cond_false,wrap_succ (by omega)]
    exact ih (i+1) n (by omega) (by omega)
theorem findFact_eq {F:Nat} (hF:maxLen < F) {l:List S_PrepressFact} {x:List UInt8} (hl:l.length≤64) (hno:look l x=none):slices_ContainsFunc_PrepressFact F l x=some (false,x):=by
  have hmax:maxLen=9223372036854775807:=rfl
  have hno':∀ f∈l,(f.f0 == x)=false:=by
    intro f hf
    unfold look at hno
    rw [Option.map_eq_none_iff,List.find?_eq_none] at hno
    simpa using hno f hf
  have h:=findFact_L0 F l x hl hno' l.length 0 F (by omega) (by omega)
  have h':slices_IndexFunc_PrepressFact_L0 F l F (0:Int) x=some (.go x):=h
  unfold slices_ContainsFunc_PrepressFact slices_IndexFunc_PrepressFact
  rw [h',callE_go,call_some]
  rfl
theorem mentioned_eq {F:Nat} (hF:maxLen < F) {c:S_PrepressCond} (hg:Good 12 c) (s:List UInt8):ref3_Mentioned F c [s]=some [(nms 12 c).any (· == s)]:=by
  have hmax:maxLen=9223372036854775807:=rfl
  obtain ⟨G,rfl⟩:∃ q,F=q+2:=⟨F - 2,by omega⟩
  unfold ref3_Mentioned
  rw [chk_pos (by simp)]
  have e:List.replicate ((([s]:List (List UInt8)).length:Int)).toNat false=[false]:=rfl
  rw [e,ref3_Mentioned_L0,decide_eq_true (by simp),cond_true,chk_pos (by simp)]
  have e2:([s]:List (List UInt8)).getD (0:Int).toNat []=s:=rfl
  unfold ref3_mentions
  rw [e2,mentions_eq hF s 12 c _ hg (by omega),call_some,chk_pos (by simp)]
  have e3:IntKind.i64.wrap ((0:Int)+1)=1:=rfl
  rw [e3,ref3_Mentioned_L0,decide_eq_false (by simp),cond_false,call_some]
  rfl
end Go.Vm.PreG
