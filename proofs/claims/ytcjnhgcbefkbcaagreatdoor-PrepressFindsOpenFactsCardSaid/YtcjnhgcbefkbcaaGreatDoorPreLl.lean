/-
  PREPRESS,PLAIN,part 12: the third law.
-/
import Derived.Test.YtcjnhgcbefkbcaaGreatDoorPreLk
namespace Go.Vm.PreG
open Go.Sort
abbrev fi0:S_PrepressFinding:=S_PrepressFinding.mk [] false []
/-- The missing facts. -/
def miss (l:List S_PrepressFact) (c:S_PrepressCond):List (List UInt8):=(nms 12 c).filter (fun s => !(look l s).isSome)
def comp (l:List S_PrepressFact) (c:S_PrepressCond):List (List UInt8):=Lib.compact (sortS (miss l c))
theorem comp_mem {l:List S_PrepressFact} {c:S_PrepressCond} {s:List UInt8}:s∈comp l c↔s∈nms 12 c∧look l s=none:=by
  unfold comp
  rw [(compact_ok _).1,miss,List.mem_filter]
  cases look l s <;> simp
theorem comp_strict (l:List S_PrepressFact) (c:S_PrepressCond):(comp l c).Pairwise (fun x y=>Op.bytesLess x y=true):=(compact_ok _).2
theorem miss_len {l:List S_PrepressFact} {c:S_PrepressCond} (hg:Good 12 c):(miss l c).length≤32768:=by
  have h1:=nms_len hg
  have h2:(miss l c).length≤(nms 12 c).length:=List.length_filter_le _ _
  have h3:8 * 2 ^ 12=32768:=by decide
  omega
theorem comp_len {l:List S_PrepressFact} {c:S_PrepressCond} (hg:Good 12 c):(comp l c).length≤32768:=by
  have h1:=miss_len (l:=l) hg
  have h2:=compact_len (sortS (miss l c))
  rw [sortS_len] at h2
  unfold comp
  omega
theorem law_L0 {F:Nat} (hF:maxLen < F) {r:S_PrepressRule} (hg:Good 12 r.f1) {l:List S_PrepressFact} (hok:FactsOk l) (x:List UInt8):∀ (m i n:Nat),i+m=(comp l r.f1).length→m < n →
    law3_PrepressFindsOpenFacts_L0 F r l ([S_PrepressFinding.mk x true (comp l r.f1)],0) n (i:Int)=some (.go ()):=by
  have hcl:=comp_len (l:=l) hg
  have hst:=comp_strict l r.f1
  have hmm:∀ s∈comp l r.f1,s∈nms 12 r.f1∧look l s=none:=fun s hs=>comp_mem.1 hs
  generalize hy:comp l r.f1=y at *
  have e0:([S_PrepressFinding.mk x true y]:List S_PrepressFinding).getD (0:Int).toNat fi0=S_PrepressFinding.mk x true y:=rfl
  intro m
  induction m with
  | zero =>
    intro i n hi hn
    obtain ⟨n,rfl⟩:∃ q,n=q+1:=⟨n - 1,by omega⟩
    obtain rfl:i=y.length:=by omega
    rw [law3_PrepressFindsOpenFacts_L0,lett_eq,e0,dec_end,cond_false]
  | succ m ih =>
    intro i n hi hn
    obtain ⟨n,rfl⟩:∃ q,n=q+1:=⟨n - 1,by omega⟩
    have hlt:i < y.length:=by omega
    have hmem:y.getD i []∈y:=by
      rw [List.getD_eq_getElem?_getD,List.getElem?_eq_getElem hlt]
      exact List.getElem_mem hlt
    obtain ⟨h1,h2⟩:=hmm _ hmem
    have h3:(nms 12 r.f1).any (· == y.getD i [])=true:=by
      rw [List.any_eq_true]
      exact ⟨_,h1,by simp⟩
    rw [law3_PrepressFindsOpenFacts_L0,lett_eq,e0]
    simp only
    rw [dec_lt hlt,cond_true,chk_in hlt,nat_toNat,findFact_eq hF hok.len h2,call_some]
    have e1:((false == false) && true)=true:=rfl
    rw [e1,cond_true,mentioned_eq hF hg,call_some,h3,chk_pos (fun _=>by simp),chk_pos (fun _=>by simp)]
    have e2:(bif (false,y.getD i []).1 then true else !([true].getD (0:Int).toNat false))=false:=rfl
    cases i with
    | zero =>
      have e3:decide ((((0:Nat)):Int) > 0)=false:=rfl
      rw [e3,chk_pos (fun h=>by simp at h),lett_eq,lett_eq,e2,cond_false,cond_false,cond_false]
      exact ih 1 n (by omega) (by omega)
    | succ k =>
      have e3:IntKind.i64.wrap (((k+1:Nat):Int) - 1)=(k:Int):=by rw [wrap_id (by omega)]; omega
      have hp:=List.pairwise_iff_getElem.1 hst k (k+1) (by omega) hlt (by omega)
      have e4:(y.getD k [] == y.getD (k+1) [])=false:=by
        rw [List.getD_eq_getElem?_getD,List.getD_eq_getElem?_getD,List.getElem?_eq_getElem hlt,List.getElem?_eq_getElem (show k < y.length by omega)]
        exact less_ne hp
      rw [e3,chk_pos (fun _=>by omega),lett_eq,lett_eq,e2,cond_false,decide_eq_true (by omega),cond_true,nat_toNat,e4,cond_false,wrap_succ (by omega)]
      exact ih (k+2) n (by omega) (by omega)
theorem law_L2 (F:Nat) (y:List (List UInt8)) (x:List UInt8) (hy:y.length≤32768):∀ (m i n:Nat) (acc:List S_PrepressFact),i+m=y.length→m < n→acc.length+m≤4294967296 →
    law3_PrepressFindsOpenFacts_L2 F ([S_PrepressFinding.mk x true y],0) n acc (i:Int)=some (acc++(y.drop i).map (fun s=>S_PrepressFact.mk s 0)):=by
  have e0:([S_PrepressFinding.mk x true y]:List S_PrepressFinding).getD (0:Int).toNat fi0=S_PrepressFinding.mk x true y:=rfl
  intro m
  induction m with
  | zero =>
    intro i n acc hi hn _
    obtain ⟨n,rfl⟩:∃ q,n=q+1:=⟨n - 1,by omega⟩
    obtain rfl:i=y.length:=by omega
    rw [law3_PrepressFindsOpenFacts_L2,lett_eq,e0,dec_end,cond_false,List.drop_length]; simp
  | succ m ih =>
    intro i n acc hi hn hacc
    obtain ⟨n,rfl⟩:∃ q,n=q+1:=⟨n - 1,by omega⟩
    have hlt:i < y.length:=by omega
    rw [law3_PrepressFindsOpenFacts_L2,lett_eq,e0]
    simp only
    rw [dec_lt hlt,cond_true,chk_in hlt,chk_pos (by simp; omega),lett_eq,nat_toNat,wrap_succ (by omega),ih (i+1) n _ (by omega) (by omega) (by simp; omega),getD_dropT (d:=[]) hlt]
    simp
/-- The facts with the missing ones,sorted. -/
def allF (l:List S_PrepressFact) (c:S_PrepressCond):List S_PrepressFact:=l++(comp l c).map (fun s=>S_PrepressFact.mk s 0)
def srtF (l:List S_PrepressFact):List S_PrepressFact:=@sortBy S_PrepressFact ⟨S_PrepressFact.mk [] 0⟩ (fun x y=>Op.bytesLess x.f0 y.f0) l
theorem srtF_perm (l:List S_PrepressFact):(srtF l).Perm l:=by
  have h:=(sortF_perm l).1.2.2
  have hs:=(sortF_perm l).1.1
  have e1:∀ d:Array S_PrepressFact,d.size=l.toArray.size→(d.extract 0 l.toArray.size).toList=d.toList:=by
    intro d hd
    rw [← hd]
    simp
  rw [e1 _ hs,e1 _ rfl] at h
  have h':(Sort.pdq (fun x y:S_PrepressFact=>Op.bytesLess x.f0 y.f0) l.toArray 0 l.length (Lib.bitLen l.length) true true).toList.Perm l:=by simpa using h
  exact h'
theorem srtF_len (l:List S_PrepressFact):(srtF l).length=(Sort.pdq (fun x y:S_PrepressFact=>Op.bytesLess x.f0 y.f0) l.toArray 0 l.length (Lib.bitLen l.length) true true).size:=by
  show (Sort.pdq (fun x y:S_PrepressFact=>Op.bytesLess x.f0 y.f0) l.toArray 0 l.length (Lib.bitLen l.length) true true).toList.length=_
  simp
theorem srtF_sorted (l:List S_PrepressFact):(srtF l).Pairwise (fun x y=>Op.bytesLess y.f0 x.f0=false):=by
  have h:=(sortF_perm l).2
  have hs:=(sortF_perm l).1.1
  rw [List.pairwise_iff_getElem]
  intro i j hi hj hij
  have hj':j < l.toArray.size:=by rw [← hs]; rw [srtF_len] at hj; exact hj
  have:=h i j (by omega) hij hj'
  have e:∀ q,(hq:q < (srtF l).length)→(Sort.pdq (fun x y:S_PrepressFact=>Op.bytesLess x.f0 y.f0) l.toArray 0 l.length (Lib.bitLen l.length) true true)[q]! = (srtF l)[q]:=by
    intro q hq
    rw [getElem!_pos _ q (by rw [srtF_len] at hq; exact hq)]
    rfl
  rw [e j hj,e i hi] at this
  exact this
theorem allF_apart {l:List S_PrepressFact} {c:S_PrepressCond} (hok:FactsOk l):(allF l c).Pairwise (fun a b=>a.f0≠b.f0):=by
  have ne:∀ {a b:List UInt8},Op.bytesLess a b=true→a≠b:=fun h e=>by rw [e,bL_irr] at h; cases h
  unfold allF
  rw [List.pairwise_append]
  refine ⟨hok.srt.imp ne,?_,fun f hf g hg=>?_⟩
  · rw [List.pairwise_map]
    exact (comp_strict l c).imp ne
  · obtain ⟨s,hs,rfl⟩:=List.mem_map.1 hg
    have h:=(comp_mem.1 hs).2
    unfold look at h
    rw [Option.map_eq_none_iff,List.find?_eq_none] at h
    have:=h f hf
    simpa using this
theorem srt_strict {l:List S_PrepressFact} {c:S_PrepressCond} (hok:FactsOk l):(srtF (allF l c)).Pairwise (fun a b=>Op.bytesLess a.f0 b.f0=true):=by
  have h1:=srtF_sorted (allF l c)
  have h2:(srtF (allF l c)).Pairwise (fun a b=>a.f0≠b.f0):=((srtF_perm (allF l c)).pairwise_iff (fun {x y} h=>Ne.symm h)).2 (allF_apart hok)
  exact h1.imp₂ (fun a b h3 h4=>le_ne h3 h4) h2
theorem look_some {l:List S_PrepressFact} {s:List UInt8} (h:∃ f∈l,f.f0=s):(look l s).isSome=true:=by
  unfold look
  rw [Option.isSome_map,List.find?_isSome]
  obtain ⟨f,hf,rfl⟩:=h
  exact ⟨f,hf,by simp⟩
theorem all_known {l:List S_PrepressFact} {c:S_PrepressCond} (hg:Good 12 c):Known (srtF (allF l c)) c:=by
  refine known_of_names 12 c hg fun s hs=>look_some ?_
  have hp:=srtF_perm (allF l c)
  cases h:look l s with
  | none=>exact ⟨S_PrepressFact.mk s 0,hp.mem_iff.2 (List.mem_append.2 (.inr (List.mem_map.2 ⟨s,comp_mem.2 ⟨hs,h⟩,rfl⟩))),rfl⟩
  | some v =>
    unfold look at h
    obtain ⟨f,hf,_⟩:=Option.map_eq_some_iff.1 h
    have h1:=List.find?_some hf
    exact ⟨f,hp.mem_iff.2 (List.mem_append.2 (.inl (List.mem_of_find?_eq_some hf))),by simpa using h1⟩
theorem judge_eq {F:Nat} (hF:maxLen < F) {r:S_PrepressRule} (hc:prepress_Check F [r]=some 0) (hg:Good 12 r.f1) {l:List S_PrepressFact} (hf:prepress_CheckFacts F l=some 0) (hok:FactsOk l) :
    ∃ b,prepress_Judge F [r] l=some (bif tv l 12 r.f1 == 0 then [S_PrepressFinding.mk r.f0 false b] else bif tv l 12 r.f1 == 2 then [S_PrepressFinding.mk r.f0 true (comp l r.f1)] else [],0):=by
  have hmax:maxLen=9223372036854775807:=rfl
  obtain ⟨b,hb⟩:=because_eq hF hg hok
  refine ⟨b,?_⟩
  obtain ⟨G,rfl⟩:∃ q,F=q+2:=⟨F - 2,by omega⟩
  have e0:([r]:List S_PrepressRule).getD (0:Int).toNat r0=r:=rfl
  have e3:IntKind.i64.wrap ((0:Int)+1)=1:=rfl
  have hml:=miss_len (l:=l) hg
  have hnl:=nms_len hg
  have hp12:8 * 2 ^ 12=32768:=by decide
  unfold prepress_Judge
  rw [hc,call_some,bne_self_eq_false,cond_false,hf,call_some,bne_self_eq_false,cond_false,prepress_Judge_L0,decide_eq_true (by simp),cond_true,chk_pos (by simp),e0,e3]
  unfold prepress_truth
  rw [truth_eq hF hok 12 r.f1 _ hg (by omega),call_some]
  cases h0:tv l 12 r.f1 == 0 with
  | true =>
    rw [cond_true,cond_true,hb,call_some,chk_pos (by simp),lett_eq,call_some,prepress_Judge_L0,decide_eq_false (by simp),cond_false,call_some]
    rfl
  | false =>
    rw [cond_false,cond_false]
    cases h2:tv l 12 r.f1 == 2 with
    | false =>
      rw [cond_false,cond_false,call_some,prepress_Judge_L0,decide_eq_false (by simp),cond_false,call_some]
    | true =>
      have h5:=names_eq hF 12 r.f1 (G+2) [] hg (by omega) (by omega) (by simp)
      rw [List.nil_append] at h5
      have h6:=judge_L3 hF hok (nms 12 r.f1) (by omega) (nms 12 r.f1).length 0 (G+2) [] (by omega) (by omega) (by simp; omega)
      have h6':prepress_Judge_L3 (G+2) l (nms 12 r.f1) (G+2) [] (0:Int)=some (miss l r.f1):=h6
      unfold prepress_names
      rw [cond_true,cond_true,h5,call_some,h6',call_some,chk_pos (by omega),chk_pos (by rw [sortS_len]; omega),chk_pos (by simp),lett_eq,call_some,prepress_Judge_L0,decide_eq_false (by simp),cond_false,call_some]
      rfl
theorem open_law {F:Nat} (hF:maxLen < F) {r:S_PrepressRule} {l:List S_PrepressFact} (hr:SmR r) (hl:SmF l):law3_PrepressFindsOpenFacts F r l=some true:=by
  have hmax:maxLen=9223372036854775807:=rfl
  obtain ⟨e,h1,h2,h3⟩:=rules_eq hF (l:=[r]) (fun x hx=>by rw [List.mem_singleton.1 hx]; exact hr)
  obtain ⟨e2,h4,h5,h6⟩:=facts_eq hF hl
  unfold law3_PrepressFindsOpenFacts
  rw [ruleFact_eq hF,call_some,Bool.not_true,cond_false,h2,call_some]
  by_cases he:e=0
  case neg =>
    have hne:(e != 0)=true:=by simpa using he
    rw [hne]
    have e1:((true == false) && true)=false:=rfl
    rw [e1,cond_false,call_some,cond_true,cond_true]
  subst he
  rw [bne_self_eq_false]
  have e1:((false == false) && true)=true:=rfl
  rw [e1,cond_true,h5,call_some,cond_false]
  by_cases he2:e2=0
  case neg =>
    have hne:(e2 != 0)=true:=by simpa using he2
    rw [hne,cond_true]
  subst he2
  rw [bne_self_eq_false,cond_false]
  obtain ⟨hgs,_⟩:=h3 rfl
  have hg:Good 12 r.f1:=(hgs r (by simp)).cond
  have hok:=h6 rfl
  have h64:=hok.len
  obtain ⟨b,hj⟩:=judge_eq hF h1 hg h4 hok
  rw [hj,call_some,told_eq hF (by omega) hok.srt hg,call_some]
  rcases tv_range l 12 r.f1 with ht | ht | ht
  · rw [ht]
    have e2:(bif ((0:Int) == 0) then [S_PrepressFinding.mk r.f0 false b] else bif ((0:Int) == 2) then [S_PrepressFinding.mk r.f0 true (comp l r.f1)] else [])=[S_PrepressFinding.mk r.f0 false b]:=rfl
    rw [e2,lett_eq]
    have e3:(bif (bif (([S_PrepressFinding.mk r.f0 false b],(0:Int)).2 != 0) then true else !(((([S_PrepressFinding.mk r.f0 false b],(0:Int)).1.length:Int) == 0) == ((0:Int) == 1))) then true else decide ((([S_PrepressFinding.mk r.f0 false b],(0:Int)).1.length:Int) > 1))=false:=rfl
    rw [e3,cond_false,show ((0:Int) != 2)=true from rfl,cond_true,chk_pos (fun _=>by simp),lett_eq]
    rfl
  · rw [ht]
    have e2:(bif ((1:Int) == 0) then [S_PrepressFinding.mk r.f0 false b] else bif ((1:Int) == 2) then [S_PrepressFinding.mk r.f0 true (comp l r.f1)] else [])=[]:=rfl
    rw [e2,lett_eq]
    have e3:(bif (bif ((([]:List S_PrepressFinding),(0:Int)).2 != 0) then true else !((((([]:List S_PrepressFinding),(0:Int)).1.length:Int) == 0) == ((1:Int) == 1))) then true else decide (((([]:List S_PrepressFinding),(0:Int)).1.length:Int) > 1))=false:=rfl
    rw [e3,cond_false,show ((1:Int) != 2)=true from rfl,cond_true,chk_pos (fun h=>by simp at h),lett_eq]
    rfl
  · rw [ht]
    have e2:(bif ((2:Int) == 0) then [S_PrepressFinding.mk r.f0 false b] else bif ((2:Int) == 2) then [S_PrepressFinding.mk r.f0 true (comp l r.f1)] else [])=[S_PrepressFinding.mk r.f0 true (comp l r.f1)]:=rfl
    rw [e2,lett_eq]
    have e3:(bif (bif (([S_PrepressFinding.mk r.f0 true (comp l r.f1)],(0:Int)).2 != 0) then true else !(((([S_PrepressFinding.mk r.f0 true (comp l r.f1)],(0:Int)).1.length:Int) == 0) == ((2:Int) == 1))) then true else decide ((([S_PrepressFinding.mk r.f0 true (comp l r.f1)],(0:Int)).1.length:Int) > 1))=false:=rfl
    have hcl:=comp_len (l:=l) hg
    rw [e3,cond_false,show ((2:Int) != 2)=false from rfl,cond_false,chk_pos (by simp),chk_pos (fun _=>by simp)]
    have e4:(([S_PrepressFinding.mk r.f0 true (comp l r.f1)],(0:Int)).1.getD (0:Int).toNat fi0)=S_PrepressFinding.mk r.f0 true (comp l r.f1):=rfl
    rw [e4]
    simp only [Bool.not_true]
    rw [e1,cond_true,isSorted_eq hF (by omega) (comp_strict l r.f1),call_some]
    simp only [Bool.not_true,cond_false]
    have h7:=law_L0 hF hg hok r.f0 (comp l r.f1).length 0 F (by omega) (by omega)
    have h7':law3_PrepressFindsOpenFacts_L0 F r l ([S_PrepressFinding.mk r.f0 true (comp l r.f1)],0) F (0:Int)=some (.go ()):=h7
    have h8:=law_L2 F (comp l r.f1) r.f0 hcl (comp l r.f1).length 0 F l (by omega) (by omega) (by omega)
    have h8':law3_PrepressFindsOpenFacts_L2 F ([S_PrepressFinding.mk r.f0 true (comp l r.f1)],0) F l (0:Int)=some (allF l r.f1):=h8
    have hal:(allF l r.f1).length≤40000:=by unfold allF; simp; omega
    have hsl:(srtF (allF l r.f1)).length≤40000:=by rw [(srtF_perm _).length_eq]; exact hal
    unfold slices_Clone_PrepressFact'
    rw [chk_pos (by simp),h7',callE_go,chk_pos (by simp; omega),call_some,List.nil_append,chk_pos (by simp),h8',call_some,chk_pos (by omega)]
    have h9:=told_eq hF (l:=srtF (allF l r.f1)) (by omega) (srt_strict hok) hg
    have h9':ref3_Told F r.f1 (@sortBy S_PrepressFact ⟨S_PrepressFact.mk [] 0⟩ (fun x y=>Op.bytesLess x.f0 y.f0) (allF l r.f1))=some (tv (srtF (allF l r.f1)) 12 r.f1):=h9
    rw [h9',call_some]
    have h10:=tv_known 12 r.f1 hg (all_known (l:=l) hg)
    simpa using h10
end Go.Vm.PreG
