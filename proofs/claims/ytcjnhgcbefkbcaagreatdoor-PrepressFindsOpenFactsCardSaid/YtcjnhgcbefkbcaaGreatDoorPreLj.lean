/-
  PREPRESS,PLAIN,part 10: the names that a condition mentions; reasons.
-/
import Derived.Test.YtcjnhgcbefkbcaaGreatDoorPreLi
namespace Go.Vm.PreG
def nms:Nat→S_PrepressCond→List (List UInt8)
  | 0,_=>[]
  | m+1,c=>c.f1.map (·.f1)++c.f4.flatMap (nms m)
theorem nms_len:∀ {m:Nat} {c:S_PrepressCond},Good m c→(nms m c).length≤8 * 2 ^ m
  | 0,_,h=>absurd h (by simp [Good])
  | m+1,c,h=>by
    rw [nms,List.length_append,List.length_map]
    have hp:1≤2 ^ m:=Nat.one_le_two_pow
    have h2:2 ^ (m+1)=2 * 2 ^ m:=by rw [Nat.pow_succ]; omega
    rcases h with ⟨h0,hc⟩ | ⟨h1,a,ha,hga,hf⟩ | ⟨h1,a,b,ha,hga,hgb,hf⟩
    · rw [hc.none]
      have:=hc.many
      simp only [List.flatMap_nil,List.length_nil]
      omega
    · have:=nms_len hga
      rw [ha,hf]
      simp only [List.flatMap_cons,List.flatMap_nil,List.length_nil,List.append_nil]
      omega
    · have:=nms_len hga
      have:=nms_len hgb
      rw [ha,hf]
      simp only [List.flatMap_cons,List.flatMap_nil,List.length_nil,List.append_nil,List.length_append]
      omega
theorem good_small:∀ {m:Nat} {c:S_PrepressCond},Good m c→c.f1.length≤8∧c.f4.length≤2
  | 0,_,h=>absurd h (by simp [Good])
  | m+1,c,h=>by
    rcases h with ⟨h0,hc⟩ | ⟨h1,a,ha,hga,hf⟩ | ⟨h1,a,b,ha,hga,hgb,hf⟩
    · rw [hc.none]; exact ⟨hc.many,by simp⟩
    · rw [ha,hf]; simp
    · rw [ha,hf]; simp
theorem good_kids {m:Nat} {c:S_PrepressCond} (h:Good (m+1) c):∀ x∈c.f4,Good m x:=by
  rcases h with ⟨h0,hc⟩ | ⟨h1,a,ha,hga,hf⟩ | ⟨h1,a,b,ha,hga,hgb,hf⟩
  · rw [hc.none]; intro x hx; cases hx
  · rw [ha]; intro x hx; rw [List.mem_singleton.1 hx]; exact hga
  · rw [ha]; intro x hx
    rcases List.mem_cons.1 hx with rfl | hx
    · exact hga
    · rw [List.mem_singleton.1 hx]; exact hgb
theorem names_L0 (F:Nat) (c:S_PrepressCond) (h8:c.f1.length≤8):∀ (m i n:Nat) (acc:List (List UInt8)),i+m=c.f1.length→m < n→acc.length+m≤4294967296 →
    prepress_names_L0 F c n acc (i:Int)=some (acc++(c.f1.drop i).map (·.f1)):=by
  intro m
  induction m with
  | zero =>
    intro i n acc hi hn _
    obtain ⟨n,rfl⟩:∃ q,n=q+1:=⟨n - 1,by omega⟩
    obtain rfl:i=c.f1.length:=by omega
    rw [prepress_names_L0,dec_end,cond_false,List.drop_length]; simp
  | succ m ih =>
    intro i n acc hi hn hacc
    obtain ⟨n,rfl⟩:∃ q,n=q+1:=⟨n - 1,by omega⟩
    have hlt:i < c.f1.length:=by omega
    rw [prepress_names_L0,dec_lt hlt,cond_true,chk_in hlt,chk_pos (by simp; omega),nat_toNat,wrap_succ (by omega),ih (i+1) n _ (by omega) (by omega) (by simp; omega),getD_dropT (d:=t0) hlt]
    simp
theorem names_L2 (F:Nat) (c:S_PrepressCond) (h2:c.f4.length≤2) (rec:S_PrepressCond→List (List UInt8)→Option (List (List UInt8))) (B:Nat) (g:S_PrepressCond→List (List UInt8)) (hb:∀ x∈c.f4,(g x).length≤B)
    (hr:∀ x∈c.f4,∀ acc:List (List UInt8),acc.length+B≤4294967296→rec x acc=some (acc++g x)):∀ (m i n:Nat) (acc:List (List UInt8)),i+m=c.f4.length→m < n→acc.length+B * m≤4294967296 →
    prepress_names_L2 F c rec n acc (i:Int)=some (acc++(c.f4.drop i).flatMap g):=by
  intro m
  induction m with
  | zero =>
    intro i n acc hi hn _
    obtain ⟨n,rfl⟩:∃ q,n=q+1:=⟨n - 1,by omega⟩
    obtain rfl:i=c.f4.length:=by omega
    rw [prepress_names_L2,dec_end,cond_false,List.drop_length]; simp
  | succ m ih =>
    intro i n acc hi hn hacc
    obtain ⟨n,rfl⟩:∃ q,n=q+1:=⟨n - 1,by omega⟩
    have hlt:i < c.f4.length:=by omega
    have hmem:c.f4.getD i c0∈c.f4:=by
      rw [List.getD_eq_getElem?_getD,List.getElem?_eq_getElem hlt]
      exact List.getElem_mem hlt
    have h3:=hb _ hmem
    rw [Nat.mul_succ] at hacc
    rw [prepress_names_L2,dec_lt hlt,cond_true,chk_in hlt,nat_toNat,hr _ hmem acc (by omega),call_some,wrap_succ (by omega),ih (i+1) n _ (by omega) (by omega) (by rw [List.length_append]; omega),getD_dropT (d:=c0) hlt]
    simp
theorem names_eq {F:Nat} (hF:maxLen < F):∀ (m:Nat) (c:S_PrepressCond) (n:Nat) (acc:List (List UInt8)),Good m c→m≤n→m≤12→acc.length+8 * 2 ^ m≤4294967296→prepress_names_fuel F n c acc=some (acc++nms m c):=by
  have hmax:maxLen=9223372036854775807:=rfl
  intro m
  induction m with
  | zero=>intro c n acc h; exact absurd h (by simp [Good])
  | succ m ih =>
    intro c n acc h hn hm hacc
    obtain ⟨n,rfl⟩:∃ q,n=q+1:=⟨n - 1,by omega⟩
    obtain ⟨h8,h2⟩:=good_small h
    have hk:=good_kids h
    have hp:1≤2 ^ m:=Nat.one_le_two_pow
    have hpow:2 ^ (m+1)=2 * 2 ^ m:=by rw [Nat.pow_succ]; omega
    have hsplit:c.f1.length+(8 * 2 ^ m) * c.f4.length≤8 * 2 ^ (m+1):=by
      rcases h with ⟨h0,hc⟩ | ⟨h1,a,ha,hga,hf⟩ | ⟨h1,a,b,ha,hga,hgb,hf⟩
      · rw [hc.none]; have:=hc.many; simp only [List.length_nil]; omega
      · rw [ha,hf]; simp only [List.length_nil,List.length_cons]; omega
      · rw [ha,hf]; simp only [List.length_nil,List.length_cons]; omega
    have e1:=names_L0 F c h8 c.f1.length 0 F acc (by omega) (by omega) (by omega)
    have e1':prepress_names_L0 F c F acc (0:Int)=some (acc++c.f1.map (·.f1)):=e1
    have e2:=names_L2 F c h2 (prepress_names_fuel F n) (8 * 2 ^ m) (nms m) (fun x hx=>nms_len (hk x hx)) (fun x hx acc' ha'=>ih x n acc' (hk x hx) (by omega) (by omega) (by omega)) c.f4.length 0 F (acc++c.f1.map (·.f1)) (by omega) (by omega) (by rw [List.length_append,List.length_map]; omega)
    have e2':prepress_names_L2 F c (prepress_names_fuel F n) F (acc++c.f1.map (·.f1)) (0:Int)=some (acc++c.f1.map (·.f1)++c.f4.flatMap (nms m)):=e2
    rw [prepress_names_fuel,prepress_names_body,e1',call_some,e2',call_some,nms,List.append_assoc]
theorem mentions_L0 (F:Nat) (c:S_PrepressCond) (s:List UInt8) (h8:c.f1.length≤8):∀ (m i n:Nat),i+m=c.f1.length→m < n →
    ref3_mentions_L0 F c s n (i:Int)=some (bif (c.f1.drop i).any (fun t=>t.f1 == s) then .esc true else .go ()):=by
  intro m
  induction m with
  | zero =>
    intro i n hi hn
    obtain ⟨n,rfl⟩:∃ q,n=q+1:=⟨n - 1,by omega⟩
    obtain rfl:i=c.f1.length:=by omega
    rw [ref3_mentions_L0,dec_end,cond_false,List.drop_length]; rfl
  | succ m ih =>
    intro i n hi hn
    obtain ⟨n,rfl⟩:∃ q,n=q+1:=⟨n - 1,by omega⟩
    have hlt:i < c.f1.length:=by omega
    rw [ref3_mentions_L0,dec_lt hlt,cond_true,chk_in hlt,nat_toNat,wrap_succ (by omega),ih (i+1) n (by omega) (by omega),getD_dropT (d:=t0) hlt,List.any_cons]
    cases (c.f1.getD i t0).f1 == s <;> rfl
theorem mentions_L2 (F:Nat) (c:S_PrepressCond) (s:List UInt8) (h2:c.f4.length≤2) (rec:S_PrepressCond→List UInt8→Option Bool) (g:S_PrepressCond→Bool)
    (hr:∀ x∈c.f4,rec x s=some (g x)):∀ (m i n:Nat),i+m=c.f4.length→m < n →
    ref3_mentions_L2 F c s rec n (i:Int)=some (bif (c.f4.drop i).any g then .esc true else .go ()):=by
  intro m
  induction m with
  | zero =>
    intro i n hi hn
    obtain ⟨n,rfl⟩:∃ q,n=q+1:=⟨n - 1,by omega⟩
    obtain rfl:i=c.f4.length:=by omega
    rw [ref3_mentions_L2,dec_end,cond_false,List.drop_length]; rfl
  | succ m ih =>
    intro i n hi hn
    obtain ⟨n,rfl⟩:∃ q,n=q+1:=⟨n - 1,by omega⟩
    have hlt:i < c.f4.length:=by omega
    have hmem:c.f4.getD i c0∈c.f4:=by
      rw [List.getD_eq_getElem?_getD,List.getElem?_eq_getElem hlt]
      exact List.getElem_mem hlt
    rw [ref3_mentions_L2,dec_lt hlt,cond_true,chk_in hlt,nat_toNat,hr _ hmem,call_some,wrap_succ (by omega),ih (i+1) n (by omega) (by omega),getD_dropT (d:=c0) hlt,List.any_cons]
    cases g (c.f4.getD i c0) <;> rfl
theorem mentions_eq {F:Nat} (hF:maxLen < F) (s:List UInt8):∀ (m:Nat) (c:S_PrepressCond) (n:Nat),Good m c→m≤n→ref3_mentions_fuel F n c s=some ((nms m c).any (· == s)):=by
  have hmax:maxLen=9223372036854775807:=rfl
  intro m
  induction m with
  | zero=>intro c n h; exact absurd h (by simp [Good])
  | succ m ih =>
    intro c n h hn
    obtain ⟨n,rfl⟩:∃ q,n=q+1:=⟨n - 1,by omega⟩
    obtain ⟨h8,h2⟩:=good_small h
    have hk:=good_kids h
    have e1:=mentions_L0 F c s h8 c.f1.length 0 F (by omega) (by omega)
    have e1':ref3_mentions_L0 F c s F (0:Int)=some (bif c.f1.any (fun t=>t.f1 == s) then .esc true else .go ()):=e1
    have e2:=mentions_L2 F c s h2 (ref3_mentions_fuel F n) (fun x=>(nms m x).any (· == s)) (fun x hx=>ih x n (hk x hx) (by omega)) c.f4.length 0 F (by omega) (by omega)
    have e2':ref3_mentions_L2 F c s (ref3_mentions_fuel F n) F (0:Int)=some (bif c.f4.any (fun x=>(nms m x).any (· == s)) then .esc true else .go ()):=e2
    rw [ref3_mentions_fuel,ref3_mentions_body,e1',e2',nms,List.any_append,List.any_map,List.any_flatMap]
    have e3:(c.f1.any ((fun x=>x == s) ∘ fun x=>x.f1))=c.f1.any (fun t=>t.f1 == s):=rfl
    rw [e3]
    cases c.f1.any (fun t=>t.f1 == s) with
    | true=>rfl
    | false =>
      rw [cond_false,callE_go,Bool.false_or]
      cases c.f4.any (fun x=>(nms m x).any (· == s)) <;> rfl
theorem known_of_names {l:List S_PrepressFact}:∀ (m:Nat) (c:S_PrepressCond),Good m c→(∀ s∈nms m c,(look l s).isSome=true)→Known l c
  | 0,_,h,_=>absurd h (by simp [Good])
  | m+1,c,h,hk=>by
    refine .mk (fun t ht=>hk _ ?_) (fun x hx=>known_of_names m x (good_kids h x hx) fun s hs=>hk s ?_)
    · rw [nms,List.mem_append]
      exact .inl (List.mem_map.2 ⟨t,ht,rfl⟩)
    · rw [nms,List.mem_append]
      exact .inr (List.mem_flatMap.2 ⟨x,hx,hs⟩)
/-! ## Reasons -/
theorem FactsOk.sub {l l':List S_PrepressFact} (h:FactsOk l) (hs:l'.Sublist l):FactsOk l' :=
  ⟨Nat.le_trans hs.length_le h.len,fun f hf=>h.each f (hs.subset hf),h.srt.sublist hs⟩
theorem cut_sub {α:Type} (l:List α) (i:Nat):(l.take i++l.drop (i+1)).Sublist l:=by
  have h1:(l.drop (i+1)).Sublist (l.drop i):=by
    rw [show l.drop (i+1)=(l.drop i).drop 1 by rw [List.drop_drop,Nat.add_comm]]
    exact List.drop_sublist _ _
  have h2:=(List.Sublist.refl (l.take i)).append h1
  rwa [List.take_append_drop] at h2
theorem because_L0 {F:Nat} (hF:maxLen < F) {c:S_PrepressCond} (hg:Good 12 c):∀ (m:Nat) (l:List S_PrepressFact) (i n:Nat),FactsOk l→i≤l.length→l.length - i≤m→m < n→∃ l',prepress_because_L0 F c n l (i:Int)=some l'∧FactsOk l':=by
  have hmax:maxLen=9223372036854775807:=rfl
  intro m
  induction m with
  | zero =>
    intro l i n hok hi hm hn
    obtain ⟨n,rfl⟩:∃ q,n=q+1:=⟨n - 1,by omega⟩
    obtain rfl:i=l.length:=by omega
    exact ⟨l,by rw [prepress_because_L0,dec_end,cond_false],hok⟩
  | succ m ih =>
    intro l i n hok hi hm hn
    obtain ⟨n,rfl⟩:∃ q,n=q+1:=⟨n - 1,by omega⟩
    have hlen:=hok.len
    by_cases hlt:i < l.length
    · have hw:IntKind.i64.wrap ((i:Int)+1)=((i+1:Nat):Int):=wrap_succ (by omega)
      have hsub:=hok.sub (cut_sub l i)
      rw [prepress_because_L0,dec_lt hlt,cond_true]
      unfold slices_Clone_PrepressFact
      rw [chk_pos (by simp; omega),call_some,hw,chk_pos (by simp; omega),nat_toNat,nat_toNat]
      simp only [List.nil_append]
      unfold prepress_truth
      rw [truth_eq hF hsub 12 c F hg (by omega),call_some]
      cases tv (l.take i++l.drop (i+1)) 12 c == 0 with
      | true =>
        rw [cond_true]
        have hl2:(l.take i++l.drop (i+1)).length=l.length - 1:=by simp; omega
        exact ih _ i n hsub (by omega) (by omega) (by omega)
      | false =>
        rw [cond_false]
        exact ih l (i+1) n hok (by omega) (by omega) (by omega)
    · obtain rfl:i=l.length:=by omega
      exact ⟨l,by rw [prepress_because_L0,dec_end,cond_false],hok⟩
theorem because_L2 (F:Nat) (l:List S_PrepressFact) (h64:l.length≤64):∀ (m i n:Nat) (acc:List (List UInt8)),i+m=l.length→m < n→acc.length+m≤4294967296 →
    ∃ o,prepress_because_L2 F l n acc (i:Int)=some o:=by
  intro m
  induction m with
  | zero =>
    intro i n acc hi hn _
    obtain ⟨n,rfl⟩:∃ q,n=q+1:=⟨n - 1,by omega⟩
    obtain rfl:i=l.length:=by omega
    exact ⟨acc,by rw [prepress_because_L2,dec_end,cond_false]⟩
  | succ m ih =>
    intro i n acc hi hn hacc
    obtain ⟨n,rfl⟩:∃ q,n=q+1:=⟨n - 1,by omega⟩
    have hlt:i < l.length:=by omega
    rw [prepress_because_L2,dec_lt hlt,cond_true,chk_in hlt,chk_pos (by simp; omega),nat_toNat,wrap_succ (by omega)]
    exact ih (i+1) n _ (by omega) (by omega) (by simp; omega)
theorem because_eq {F:Nat} (hF:maxLen < F) {c:S_PrepressCond} (hg:Good 12 c) {l:List S_PrepressFact} (hok:FactsOk l):∃ o,prepress_because F c l=some o:=by
  have hmax:maxLen=9223372036854775807:=rfl
  have hlen:=hok.len
  unfold prepress_because slices_Clone_PrepressFact
  rw [chk_pos (by simp; omega),call_some,List.nil_append]
  obtain ⟨l',h1,h2⟩:=because_L0 hF hg l.length l 0 F hok (by omega) (by omega) (by omega)
  have h1':prepress_because_L0 F c F l (0:Int)=some l':=h1
  rw [h1',call_some]
  have hlen2:=h2.len
  obtain ⟨o,h3⟩:=because_L2 F l' hlen2 l'.length 0 F [] (by omega) (by omega) (by simp; omega)
  have h3':prepress_because_L2 F l' F [] (0:Int)=some o:=h3
  exact ⟨o,by rw [h3',call_some]⟩
end Go.Vm.PreG
