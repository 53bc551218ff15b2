/-
  vary.Parse,plain law 7: the law.
-/
import Derived.Test.YtfiggijjdmbafaaDoorMrgLf
namespace Go.Vm.MrgG
/-! ## What a table read is like -/
def okr (N:Nat) (w:List (List UInt8)):Prop:=w.length≤N∧w≠[]∧∀ x∈w,x.length≤N
theorem okr_app {N:Nat} {r:List (List UInt8)} {v:List UInt8} (hr:r.length+1≤N) (hx:∀ x∈r,x.length≤N) (hv:v.length≤N):okr N (r++[v]):=by
  refine ⟨by simp only [List.length_append,List.length_singleton]; exact hr,by simp,fun x h=>?_⟩
  rcases List.mem_append.1 h with h | h
  · exact hx x h
  · rw [List.mem_singleton.1 h]; exact hv
theorem tbl_inv (N:Nat):∀ (s:List UInt8) o r v m,o.length+s.length≤N→r.length+s.length≤N→v.length+s.length≤N→(∀ x∈r,x.length≤N)→(∀ w∈o,okr N w) →
    (∀ w∈got (tbl s o r v m),okr N w)∧(got (tbl s o r v m)).length≤N:=by
  intro s
  induction s with
  | nil=>intro o r v m h1 h2 h3 h4 h5; exact ⟨h5,by show o.length≤N; simp only [List.length_nil] at h1; omega⟩
  | cons c s ih =>
    intro o r v m h1 h2 h3 h4 h5
    simp only [List.length_cons] at h1 h2 h3
    have la:∀ {α:Type} (l:List α) (x:α),(l++[x]).length=l.length+1:=fun l x=>by simp
    rw [tbl]
    cases (bif m == 2 then c == 34 else false)
    rotate_left
    · exact ih o r v 3 (by omega) (by omega) (by omega) h4 h5
    rw [cond_false]
    cases m == 2
    rotate_left
    · exact ih o r (v++[c]) m (by omega) (by omega) (by rw [la]; omega) h4 h5
    rw [cond_false]
    cases (bif m == 3 then c == 34 else false)
    rotate_left
    · exact ih o r (v++[34]) 2 (by omega) (by omega) (by rw [la]; omega) h4 h5
    rw [cond_false]
    cases (bif m == 0 then c == 34 else false)
    rotate_left
    · exact ih o r v 2 (by omega) (by omega) (by omega) h4 h5
    rw [cond_false]
    cases (bif c == 44 then true else c == 10)
    rotate_left
    · rw [cond_true]
      cases m == 0
      rotate_left
      · exact ⟨fun w h=>by simp [got] at h,Nat.zero_le _⟩
      rw [cond_false]
      cases c == 10
      · refine ih o (r++[v]) [] 0 (by omega) (by rw [la]; omega) (by simp only [List.length_nil]; omega) (fun x h=>?_) h5
        exact (okr_app (by omega) h4 (by omega)).2.2 x h
      · refine ih (o++[r++[v]]) [] [] 0 (by rw [la]; omega) (by simp only [List.length_nil]; omega) (by simp only [List.length_nil]; omega) (fun x h=>by simp at h) (fun w h=>?_)
        rcases List.mem_append.1 h with h | h
        · exact h5 w h
        · rw [List.mem_singleton.1 h]; exact okr_app (by omega) h4 (by omega)
    rw [cond_false]
    cases (bif c == 34 then true else m == 3)
    rotate_left
    · exact ⟨fun w h=>by simp [got] at h,Nat.zero_le _⟩
    exact ih o r (v++[c]) 1 (by omega) (by omega) (by rw [la]; omega) h4 h5
theorem tbl_ok (s:List UInt8):(∀ w∈got (tbl s [] [] [] 0),okr s.length w)∧(got (tbl s [] [] [] 0)).length≤s.length :=
  tbl_inv s.length s [] [] [] 0 (by simp) (by simp) (by simp) (fun x h=>by simp at h) (fun x h=>by simp at h)
/-! ## Parse -/
def none2 (e:Int):S_VaryTable×Int:=(S_VaryTable.mk [] [],e)
def judged:List (List (List UInt8))→S_VaryTable×Int
  | []=>none2 5
  | f :: rows=>bif pe f rows != 0 then none2 (pe f rows) else (S_VaryTable.mk f rows,0)
def parsed (s:List UInt8):S_VaryTable×Int :=
  bif decide ((s.length:Int) > 8192) then none2 2
  else bif !good (tbl s [] [] [] 0) then none2 5
  else judged (got (tbl s [] [] [] 0))
theorem parsed_eq (F:Nat) (s:List UInt8) (hF:8193 < F):vary_Parse F s=some (parsed s):=by
  unfold vary_Parse parsed
  cases hd:decide ((s.length:Int) > 8192)
  · have hd':=of_decide_eq_false hd
    rw [cond_false,cond_false]
    rcases parse_all F s (by omega) (by omega) with ⟨a1,f,rows,a2,a3⟩ | ⟨a1,a2⟩
    · obtain ⟨b1,b2⟩:=tbl_ok s
      rw [a2] at b1
      have hf:=b1 f (List.mem_cons_self ..)
      have hfine:∀ w,okr s.length w→fine w:=fun w h x hx=>by have:=h.2.2 x hx; omega
      rw [a3,a1,a2,callE_go]
      simp only
      rw [check_eq F f rows hF hf.2.1 (hfine f hf) (fun w h=>hfine w (b1 w (List.mem_cons_of_mem _ h))),call_some]
      show _=some (bif pe f rows != 0 then none2 (pe f rows) else (S_VaryTable.mk f rows,0))
      cases pe f rows != 0 <;> rfl
    · rw [a2,a1]; rfl
  · rfl
theorem judged_ne {f rows} {e:Int} (h:pe f rows=e) (he:(e == 0)=false):judged (f :: rows)=none2 e:=by
  show (bif pe f rows != 0 then none2 (pe f rows) else (S_VaryTable.mk f rows,0))=_
  rw [h,bne,he]
  rfl
theorem judged_ok {f rows} (h:pe f rows=0):judged (f :: rows)=(S_VaryTable.mk f rows,0):=by
  show (bif pe f rows != 0 then none2 (pe f rows) else (S_VaryTable.mk f rows,0))=_
  rw [h]
  rfl
/-! ## Equality -/
theorem fe_refl {α ε:Type} (l:List α) (L:Nat→Int→Option (Out Unit ε)) (h1:∀ n (i:Nat) x,l[i]? = some x→L (n+1) i=L n ((i+1:Nat):Int))
    (h2:∀ n,L (n+1) (l.length:Int)=some (.go ())) (n:Nat) (hn:l.length < n) (e:ε):L n 0=some (.go ()):=by
  rw [scanE l L (fun _ _=>0) (fun _=>e) (fun n i x hx=>h1 n i x hx) h2 n hn,fe_zero (fun _ _ _=>rfl)]
  rfl
theorem equal_refl (F:Nat) (l:List (List UInt8)) (hl:l.length≤4294967280) (hF:l.length < F):slices_Equal_string F l l=some true:=by
  unfold slices_Equal_string
  rw [show ((l.length:Int) != (l.length:Int))=false by simp,cond_false,fe_refl l (slices_Equal_string_L0 F l l) ?_ ?_ F hF true]
  · rfl
  · intro n i x hx
    have hi:=lt_of_get hx
    rw [slices_Equal_string_L0,dec_lt hi,cond_true,chk_in hi,chk_in hi,wrap_succ (by omega)]
    simp only [BEq.rfl]
    rfl
  · intro n
    rw [slices_Equal_string_L0,dec_end,cond_false]
theorem same_refl (F:Nat) (l:List (List UInt8)) (hl:l.length≤4294967280) (hF:l.length < F):ref3_SameTexts F l l=some true:=by
  unfold ref3_SameTexts
  rw [show ((l.length:Int) != (l.length:Int))=false by simp,cond_false,fe_refl l (ref3_SameTexts_L0 F l l) ?_ ?_ F hF true]
  · rfl
  · intro n i x hx
    have hi:=lt_of_get hx
    rw [ref3_SameTexts_L0,dec_lt hi,cond_true,chk_in hi,chk_in hi,wrap_succ (by omega)]
    simp only [BEq.rfl]
    rfl
  · intro n
    rw [ref3_SameTexts_L0,dec_end,cond_false]
theorem func_refl (F:Nat) (l:List (List (List UInt8))) (hl:l.length≤4294967280) (hF:l.length < F) (hw:∀ w∈l,w.length≤8192) (hF2:8193 < F):slices_EqualFunc_string F l l=some true:=by
  unfold slices_EqualFunc_string
  rw [show ((l.length:Int) != (l.length:Int))=false by simp,cond_false,fe_refl l (slices_EqualFunc_string_L0 F l l) ?_ ?_ F hF true]
  · rfl
  · intro n i x hx
    have hi:=lt_of_get hx
    have:=hw x (List.mem_of_getElem? hx)
    rw [slices_EqualFunc_string_L0,dec_lt hi,cond_true,chk_in hi,chk_in hi,wrap_succ (by omega)]
    simp only [nat_toNat,getD_of hx]
    rw [same_refl F x (by omega) (by omega)]
    rfl
  · intro n
    rw [slices_EqualFunc_string_L0,dec_end,cond_false]
theorem parsed_fact:parsed ([97,44,98,10,49,44,34,120,34,34,121,34,10]:List UInt8)=(S_VaryTable.mk [[97],[98]] [[[49],[120,34,121]]],0):=by decide +kernel
theorem fact_eq (F:Nat) (hF:8193 < F):law3_tableFact F=some true:=by
  unfold law3_tableFact
  rw [parsed_eq F _ hF,parsed_fact,call_some]
  simp only
  rw [show ((((0:Int) == 0) == true) && true)=true from rfl,cond_true,equal_refl F [[97],[98]] (by simp) (by simp only [List.length_cons,List.length_nil]; omega),call_some,lett_eq]
  rw [chk_pos (fun _=>⟨by decide,by decide⟩)]
  have:=equal_refl F [[49],[120,34,121]] (by simp) (by simp only [List.length_cons,List.length_nil]; omega)
  exact congrArg (fun z:Option Bool=>call z fun y3=>some (bif true then y3 else false)) this
/-! ## The loops of the law -/
section
variable (F:Nat) (f:List (List UInt8)) (rows:List (List (List UInt8))) (hF:8193 < F) (hf:okr 8192 f) (hr:∀ w∈rows,okr 8192 w)
include hF hf
theorem law_L1:law3_VaryParseMatchesReference_L1 F (f :: rows,true) F 0 0=some (fe (ne f) 0 f):=by
  obtain ⟨hl,_,hv⟩:=hf
  refine scanW f (law3_VaryParseMatchesReference_L1 F (f :: rows,true)) (ne f) ?_ ?_ F (by omega)
  · intro n i x v hx
    have hi:=lt_of_get hx
    have hxl:=hv x (List.mem_of_getElem? hx)
    rw [law3_VaryParseMatchesReference_L1]
    simp only
    rw [show ((f :: rows).getD (0:Int).toNat [])=f from rfl,dec_lt hi,cond_true,chk_in hi,wrap_succ (by omega)]
    simp only [nat_toNat,getD_of hx]
    have hq:∀ (b:Bool) (k:Option Int),chk (b=true→0≤(0:Int)∧(0:Int) < (((f :: rows):List (List (List UInt8))).length:Int)) k=k:=fun b k=>chk_pos fun _=>⟨by omega,by simp only [List.length_cons]; omega⟩
    have hq2:∀ (b:Bool) (k:Option Int),chk (b=true→0≤(0:Int)∧(0:Int)≤(i:Int)∧(i:Int)≤(f.length:Int)) k=k:=fun b k=>chk_pos fun _=>⟨by omega,by omega,by omega⟩
    simp only [hq,hq2]
    rw [isname_eq F x (by omega) (by omega),show ((f.drop (0:Int).toNat).take (i - (0:Int).toNat))=f.take i by rw [show (0:Int).toNat=0 from rfl,List.drop_zero,Nat.sub_zero],
        hastext_eq F _ x (by rw [List.length_take]; omega) (by rw [List.length_take]; omega)]
    unfold ne
    cases hv0:v == 0
    · simp only [Bool.and_true,call_some,cond_false,hv0,show (false == true)=false from rfl]
    · have:v=0:=by simpa using hv0
      subst this
      cases nm x
      · rfl
      · cases (f.take i).contains x <;> rfl
  · intro n v
    rw [law3_VaryParseMatchesReference_L1]
    simp only
    rw [show ((f :: rows).getD (0:Int).toNat [])=f from rfl,dec_end,cond_false]
theorem law_L3 (h16:f.length≤16):law3_VaryParseMatchesReference_L3 F (f :: rows,true) F (f.length:Int) 0=some ((sz f:Nat):Int):=by
  obtain ⟨hl,_,hv⟩:=hf
  have key:∀ (t:List (List UInt8)) (n i k:Nat),f.drop i=t→i≤f.length→t.length < n→k≤i * 8192+16→law3_VaryParseMatchesReference_L3 F (f :: rows,true) n (k:Int) i=some ((k+Lib.lens t:Nat):Int):=by
    intro t
    induction t with
    | nil =>
      intro n i k ht hi hn _
      obtain ⟨n,rfl⟩:∃ k,n=k+1:=⟨n - 1,by omega⟩
      have:=drop_nil ht hi
      subst this
      rw [law3_VaryParseMatchesReference_L3]
      simp only
      rw [show ((f :: rows).getD (0:Int).toNat [])=f from rfl,dec_end,cond_false]
      rfl
    | cons x t ih =>
      intro n i k ht hi hn hk
      simp only [List.length_cons] at hn
      obtain ⟨n,rfl⟩:∃ k,n=k+1:=⟨n - 1,by omega⟩
      obtain ⟨hlt,hx,ht'⟩:=drop_cons ht
      have hxl:=hv x (List.mem_of_getElem? hx)
      rw [law3_VaryParseMatchesReference_L3]
      simp only
      rw [show ((f :: rows).getD (0:Int).toNat [])=f from rfl,dec_lt hlt,cond_true,chk_in hlt,wrap_succ (by omega)]
      simp only [nat_toNat,getD_of hx]
      rw [show (k:Int)+(x.length:Int)=((k+x.length:Nat):Int) by omega,wrap_id (by omega),ih n (i+1) (k+x.length) ht' hlt (by omega) (by omega)]
      unfold Lib.lens
      rw [List.map_cons,List.sum_cons,Nat.add_assoc]
  have:=key f F 0 f.length rfl (by omega) (by omega) (by omega)
  exact this
end
theorem law_L7 (F:Nat) (hF:8193 < F) (row:List (List UInt8)) (hf:okr 8192 row) :
    (∀ v:Int,∃ v',law3_VaryParseMatchesReference_L7 F row F v 0=some v')∧∀ k:Nat,k≤4294967296→law3_VaryParseMatchesReference_L7 F row F (k:Int) 0=some ((k+rl row:Nat):Int):=by
  obtain ⟨hl,_,hv⟩:=hf
  have key:∀ (t:List (List UInt8)) (n i:Nat),row.drop i=t→i≤row.length→t.length < n→(∀ v:Int,∃ v',law3_VaryParseMatchesReference_L7 F row n v i=some v') ∧
      ∀ k:Nat,k≤4294967296+i * 16387→law3_VaryParseMatchesReference_L7 F row n (k:Int) i=some ((k+rl t:Nat):Int):=by
    intro t
    induction t with
    | nil =>
      intro n i ht hi hn
      obtain ⟨n,rfl⟩:∃ k,n=k+1:=⟨n - 1,by omega⟩
      have:=drop_nil ht hi
      subst this
      refine ⟨fun v=>⟨v,?_⟩,fun k _=>?_⟩
      · rw [law3_VaryParseMatchesReference_L7,dec_end,cond_false]
      · rw [law3_VaryParseMatchesReference_L7,dec_end,cond_false]; rfl
    | cons x t ih =>
      intro n i ht hi hn
      simp only [List.length_cons] at hn
      obtain ⟨n,rfl⟩:∃ k,n=k+1:=⟨n - 1,by omega⟩
      obtain ⟨hlt,hx,ht'⟩:=drop_cons ht
      have hxl:=hv x (List.mem_of_getElem? hx)
      have hq:=ql_le hxl
      have step:∀ v:Int,law3_VaryParseMatchesReference_L7 F row (n+1) v i=law3_VaryParseMatchesReference_L7 F row n (IntKind.i64.wrap (v+(IntKind.i64.wrap ((1:Int)+((ql x:Nat):Int))))) ((i+1:Nat):Int):=fun v=>by
        rw [law3_VaryParseMatchesReference_L7,dec_lt hlt,cond_true,chk_in hlt,wrap_succ (by omega)]
        simp only [nat_toNat,getD_of hx]
        rw [rquoted F x (by omega) (by omega),call_some]
      obtain ⟨i1,i2⟩:=ih n (i+1) ht' hlt (by omega)
      refine ⟨fun v=>?_,fun k hk=>?_⟩
      · rw [step]; exact i1 _
      · rw [step,wrap_id (x:=1+((ql x:Nat):Int)) (by omega),show (k:Int)+(1+((ql x:Nat):Int))=((k+(1+ql x):Nat):Int) by omega,wrap_id (by omega),i2 _ (by omega),rl,Nat.add_assoc]
  have:=key row F 0 rfl (by omega) (by omega)
  exact ⟨this.1,fun k hk=>this.2 k (by omega)⟩
theorem law_L5 (F:Nat) (hF:8193 < F) (f:List (List UInt8)) (rows:List (List (List UInt8))) (hr:∀ w∈rows,okr 8192 w) (hn:rows.length≤8192) (k:Nat) (hk:k≤4294967296) :
    law3_VaryParseMatchesReference_L5 F (f :: rows,true) F 0 (k:Int) 0=some (re f.length k rows):=by
  have hdrop:((((f :: rows,true):List (List (List UInt8))×Bool).1.drop (1:Int).toNat).take (((((f :: rows,true):List (List (List UInt8))×Bool).1.length:Int)).toNat - (1:Int).toNat))=rows:=by
    show rows.take ((f :: rows).length - 1)=rows
    rw [List.take_of_length_le (by simp only [List.length_cons]; omega)]
  have key:∀ (rs:List (List (List UInt8))) (n i:Nat),rows.drop i=rs→i≤rows.length→rs.length < n →
      (∀ e v:Int,(e == 0)=false→law3_VaryParseMatchesReference_L5 F (f :: rows,true) n e v i=some e) ∧
      ∀ k:Nat,k≤4294967296→law3_VaryParseMatchesReference_L5 F (f :: rows,true) n 0 (k:Int) i=some (re f.length k rs):=by
    intro rs
    induction rs with
    | nil =>
      intro n i ht hi hn
      obtain ⟨n,rfl⟩:∃ k,n=k+1:=⟨n - 1,by omega⟩
      have:=drop_nil ht hi
      subst this
      refine ⟨fun e v _=>?_,fun k _=>?_⟩
      · rw [law3_VaryParseMatchesReference_L5,hdrop,lett_eq,dec_end,cond_false]
      · rw [law3_VaryParseMatchesReference_L5,hdrop,lett_eq,dec_end,cond_false]; rfl
    | cons r rs ih =>
      intro n i ht hi hn
      simp only [List.length_cons] at hn
      obtain ⟨n,rfl⟩:∃ k,n=k+1:=⟨n - 1,by omega⟩
      obtain ⟨hlt,hx,ht'⟩:=drop_cons ht
      obtain ⟨s1,s2⟩:=law_L7 F hF r (hr r (List.mem_of_getElem? hx))
      obtain ⟨i1,i2⟩:=ih n (i+1) ht' hlt (by omega)
      have hq:∀ (b:Bool) (k:Option Int),chk (b=true→0≤(0:Int)∧(0:Int) < (((f :: rows):List (List (List UInt8))).length:Int)) k=k:=fun b k=>chk_pos fun _=>⟨by omega,by simp only [List.length_cons]; omega⟩
      refine ⟨fun e v he=>?_,fun k hk=>?_⟩
      · rw [law3_VaryParseMatchesReference_L5,hdrop,lett_eq,dec_lt hlt,cond_true,chk_in hlt,wrap_succ (by omega)]
        simp only [nat_toNat,getD_of hx,lett_eq,hq,he,cond_false,call_some]
        obtain ⟨v',e'⟩:=s1 v
        rw [e',call_some]
        simp only [he,cond_false,call_some]
        exact i1 e v' he
      · rw [law3_VaryParseMatchesReference_L5,hdrop,lett_eq,dec_lt hlt,cond_true,chk_in hlt,wrap_succ (by omega)]
        simp only [nat_toNat,getD_of hx,lett_eq,hq]
        rw [show ((0:Int) == 0)=true from rfl,cond_true,re]
        rw [show ((f :: rows).getD (0:Int).toNat [])=f from rfl]
        rw [s2 k hk]
        cases hl:((r.length:Int) != (f.length:Int))
        · simp only [cond_false,call_some,show ((0:Int) == 0)=true from rfl,cond_true]
          cases hd:decide (((k+rl r:Nat):Int) > 8192)
          · have:=of_decide_eq_false hd
            simp only [cond_false,call_some]
            exact i2 (k+rl r) (by omega)
          · simp only [cond_true,call_some]
            exact i1 2 _ rfl
        · simp only [cond_true,call_some,show ((4:Int) == 0)=false from rfl,cond_false]
          exact i1 4 _ rfl
  exact (key rows F 0 rfl (by omega) (by omega)).2 k hk
/-! ## The law -/
theorem parse_law (F:Nat) (s:List UInt8) (hs:s.length≤4294967296) (hF:4294967297 < F):law3_VaryParseMatchesReference F s=some true:=by
  unfold law3_VaryParseMatchesReference
  rw [fact_eq F (by omega),call_some,Bool.not_true,cond_false,parsed_eq F s (by omega),call_some,table_eq F s hs (by omega),call_some]
  unfold parsed
  cases hd:decide ((s.length:Int) > 8192)
  rotate_left
  · rfl
  have hd':=of_decide_eq_false hd
  rw [cond_false,cond_false]
  simp only
  cases hg:good (tbl s [] [] [] 0)
  · rfl
  rw [Bool.not_true,cond_false,cond_false]
  obtain ⟨h1,h2⟩:=tbl_ok s
  rcases parse_all F s (by omega) (by omega) with ⟨_,f,rows,a2,_⟩ | ⟨a1,_⟩
  rotate_left
  · rw [a1] at hg; cases hg
  rw [a2] at h1 h2 ⊢
  have hok:∀ w,okr s.length w→okr 8192 w:=fun w h=>⟨by have:=h.1; omega,h.2.1,fun x hx=>by have:=h.2.2 x hx; omega⟩
  have hf:=hok f (h1 f (List.mem_cons_self ..))
  have hr:∀ w∈rows,okr 8192 w:=fun w h=>hok w (h1 w (List.mem_cons_of_mem _ h))
  simp only [List.length_cons] at h2
  have hp:0≤(0:Int)∧(0:Int) < (((f :: rows):List (List (List UInt8))).length:Int):=⟨by omega,by simp only [List.length_cons]; omega⟩
  have hp1:0≤(1:Int)∧(1:Int)≤(((f :: rows):List (List (List UInt8))).length:Int)∧(((f :: rows):List (List (List UInt8))).length:Int)≤(((f :: rows):List (List (List UInt8))).length:Int):=⟨by omega,by simp only [List.length_cons]; omega,by omega⟩
  simp only [chk_pos hp,lett_eq]
  rw [show ((f :: rows).getD (0:Int).toNat [])=f from rfl]
  have hz:(bif (decide ((f.length:Int) > (16:Int))) then true else (decide ((((f :: rows):List (List (List UInt8))).length:Int) > (257:Int))))=(bif (decide ((f.length:Int) > (16:Int))) then true else (decide ((rows.length:Int) > (256:Int)))):=by
    have:decide ((((f :: rows):List (List (List UInt8))).length:Int) > (257:Int))=decide ((rows.length:Int) > (256:Int)):=by
      simp only [List.length_cons]
      exact decide_eq_decide.2 (by omega)
    rw [this]
  rw [hz]
  cases h0:(bif (decide ((f.length:Int) > (16:Int))) then true else (decide ((rows.length:Int) > (256:Int))))
  rotate_left
  · rw [judged_ne (e:=2) (by unfold pe; rw [h0]; rfl) rfl]
    rfl
  have h16:f.length≤16:=by
    rcases Nat.lt_or_ge 16 f.length with h | h
    · rw [decide_eq_true (by omega)] at h0; cases h0
    · exact h
  rw [cond_false,call_some,show ((0:Int) == 0)=true from rfl,cond_true,law_L1 F f rows (by omega) hf,call_some,call_some]
  cases hq:fe (ne f) 0 f == 0
  · rw [judged_ne (by unfold pe; rw [h0,hq]; rfl) hq]
    simp only [cond_false,call_some]
    have:(fe (ne f) 0 f != 0)=true:=by rw [bne,hq]; rfl
    simp only [this,cond_true,none2]
    rw [show (fe (ne f) 0 f == fe (ne f) 0 f)=true from BEq.rfl]
    rfl
  · have hq0:fe (ne f) 0 f=0:=by simpa using hq
    have hlens:=lens_le f hf.2.2
    have hsz:sz f≤131088:=by
      have:f.length * 8192≤16 * 8192:=Nat.mul_le_mul_right _ (by omega)
      unfold sz; omega
    rw [cond_true,law_L3 F f rows (by omega) hf h16,call_some,chk_pos hp1,hq0,law_L5 F (by omega) f rows hr (by omega) (sz f) (by omega),call_some,call_some]
    cases he:re f.length (sz f) rows == 0
    · rw [judged_ne (by unfold pe; rw [h0,hq]; rfl) he]
      have:(re f.length (sz f) rows != 0)=true:=by rw [bne,he]; rfl
      simp only [this,cond_true,none2]
      rw [show (re f.length (sz f) rows == re f.length (sz f) rows)=true from BEq.rfl]
      rfl
    · have he0:re f.length (sz f) rows=0:=by simpa using he
      rw [judged_ok (by unfold pe; rw [h0,hq]; exact he0),he0]
      rw [show ((0:Int) != 0)=false from rfl,cond_false]
      simp only
      have hpi:∀ (b:Bool) (k:Option Bool),chk (b=true→0≤(0:Int)∧(0:Int) < (((f :: rows):List (List (List UInt8))).length:Int)) k=k:=fun b k=>chk_pos fun _=>hp
      have hp1i:∀ (b:Bool) (k:Option Bool),chk (b=true→0≤(1:Int)∧(1:Int)≤(((f :: rows):List (List (List UInt8))).length:Int)∧(((f :: rows):List (List (List UInt8))).length:Int)≤(((f :: rows):List (List (List UInt8))).length:Int)) k=k:=fun b k=>chk_pos fun _=>hp1
      simp only [hpi,hp1i]
      rw [show ((((0:Int) == 0) == true) && true)=true from rfl,cond_true,same_refl F f (by have:=hf.1; omega) (by have:=hf.1; omega),call_some]
      have hdrop:(((f :: rows).drop (1:Int).toNat).take ((((f :: rows):List (List (List UInt8))).length:Int).toNat - (1:Int).toNat))=rows:=by
        show rows.take ((f :: rows).length - 1)=rows
        rw [List.take_of_length_le (by simp only [List.length_cons]; omega)]
      rw [hdrop]
      rw [show (((bif ((0:Int) == 0) then true else false) == true) && true)=true from rfl,cond_true,func_refl F rows (by omega) (by omega) (fun w h=>(hr w h).1) (by omega),call_some]
      rfl
end Go.Vm.MrgG
