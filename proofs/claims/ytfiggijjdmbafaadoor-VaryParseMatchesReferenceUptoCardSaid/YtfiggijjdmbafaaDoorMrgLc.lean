/-
  vary.Parse,plain law 3: values,lines,the loop of Parse.
-/
import Derived.Test.YtfiggijjdmbafaaDoorMrgLb
namespace Go.Vm.MrgG
theorem pre34 (F:Nat) (c:UInt8) (s:List UInt8):strings_HasPrefix F (c :: s) ([34]:List UInt8)=some (c == 34):=by
  unfold strings_HasPrefix internal_stringslite_HasPrefix
  have h:(decide (((c :: s).length:Int) ≥ (([34]:List UInt8).length:Int)))=true:=decide_eq_true (by simp only [List.length_cons,List.length_nil]; omega)
  rw [chk_pos (fun _=>⟨by omega,by simp,by simp only [List.length_cons,List.length_nil]; omega⟩),h]
  cases hc:c == 34
  · have:(([c]:List UInt8) == [34])=false:=by simpa using hc
    exact congrArg some this
  · have:(([c]:List UInt8) == [34])=true:=by simpa using hc
    exact congrArg some this
theorem value_eq (F:Nat) (s:List UInt8) (hs:s.length≤4294967280) (hF:s.length < F) :
    (∃ w c rest,vary_value F s=some (w,((c:UInt8).toNat:Int),rest,true)∧(c=44∨c=10)∧rest.length < s.length∧∀ o r,tbl s o r [] 0=aft c rest o r w) ∨
    (∃ w c rest,vary_value F s=some (w,c,rest,false)∧(s≠[]→∀ o r,NG (tbl s o r [] 0))):=by
  unfold vary_value
  cases s with
  | nil=>exact .inr ⟨_,_,_,rfl,fun h=>absurd rfl h⟩
  | cons b s =>
    rw [pre34]
    change _∨(∃ w c rest,(bif !(b == 34) then _ else _)=_∧_)
    cases hb:b == 34
    · rw [call_some,Bool.not_false,cond_true,chk_pos (by omega)]
      rcases idx_split (b :: s) with ⟨h1,h2⟩ | ⟨t,c,rest,h0,h2,h3,h4⟩
      · right
        rw [show ([44,34,10]:List UInt8)=chars from rfl,h1]
        refine ⟨_,_,_,rfl,fun _ o r=>?_⟩
        have:=tbl0 [] o r (b :: s) (by simp) h2
        rw [List.append_nil] at this
        rw [this]
        intro o' r' m' h; cases h; rfl
      · rw [show ([44,34,10]:List UInt8)=chars from rfl,h4,h0]
        have hl:(t++c :: rest).length=t.length+1+rest.length:=by simp only [List.length_append,List.length_cons]; omega
        have hl2:t.length+1+rest.length≤4294967280:=by rw [← hl,← h0]; exact hs
        have hc:(t++c :: rest).getD t.length 0=c:=by simp
        rw [chk_pos (fun _=>⟨by omega,by omega⟩)]
        simp only [nat_toNat,hc,e34,lett_eq]
        cases ht:decide ((t.length:Int) < 1)
        · have ht':t≠[]:=by rintro rfl; simp at ht
          cases h5:c == 34
          · left
            rw [cond_false,cond_false,chk_pos ⟨by omega,by omega,by omega⟩,chk_pos ⟨by omega,by omega⟩,wrap_succ (by omega),chk_pos ⟨by omega,by omega,by omega⟩]
            refine ⟨t,c,rest,?_,?_,by omega,fun o r=>?_⟩
            · simp only [nat_toNat]
              have e1:((t++c :: rest).drop (0:Int).toNat).take (t.length - (0:Int).toNat)=t:=by
                rw [show (0:Int).toNat=0 from rfl,List.drop_zero,Nat.sub_zero,List.take_left]
              have e2:((t++c :: rest).drop (t.length+1)).take ((t++c :: rest).length - (t.length+1))=rest:=by
                rw [show t++c :: rest=(t++[c])++rest by simp,show t.length+1=(t++[c]).length by simp,List.drop_left,List.take_of_length_le (by simp; omega)]
              rw [e1,e2]
            · rcases chars_t h3 with h | h | h
              · exact .inl h
              · rw [h] at h5; cases h5
              · exact .inr h
            · rw [tbl0 (c :: rest) o r t ht' h2,tbl,h5]
              rcases chars_t h3 with h | h | h
              · subst h; rfl
              · rw [h] at h5; cases h5
              · subst h; rfl
          · right
            refine ⟨_,_,_,rfl,fun _ o r=>?_⟩
            have hc:c=34:=by simpa using h5
            subst hc
            rw [tbl0 _ o r t ht' h2]
            exact NG.none
        · right
          refine ⟨_,_,_,rfl,fun _ o r=>?_⟩
          have ht':t=[]:=by cases t with | nil=>rfl | cons x t=>simp at ht; omega
          subst ht'
          rw [List.nil_append] at h0 ⊢
          injection h0 with h0 h6
          subst h0
          rcases chars_t h3 with h | h | h
          · subst h; exact NG.none
          · rw [h] at hb; cases hb
          · subst h; exact NG.none
    · have hb':b=34:=by simpa using hb
      subst hb'
      rw [call_some,Bool.not_true,cond_false]
      have:=q_L0 F (34 :: s) hs F 1 [] (by simp) (by omega) (by simp)
      rw [show ((1:Nat):Int)=1 from rfl] at this
      have et:∀ o r,tbl (34 :: s) o r [] 0=tbl ((34 :: s).drop 1) o r [] 2:=fun o r=>rfl
      simp only [et]
      rcases this with ⟨w,c,rest,h1,h2⟩ | ⟨h1 | h1,h2⟩
      · rw [h1]; exact .inl ⟨w,c,rest,rfl,h2⟩
      · rw [h1]; exact .inr ⟨_,_,_,rfl,fun _=>h2⟩
      · rw [h1]; exact .inr ⟨_,_,_,rfl,fun _=>h2⟩
theorem line_L0 (F:Nat):∀ (n:Nat) (s:List UInt8) (r:List (List UInt8)),s.length≤4294967280→s.length < F→s.length < n→r.length+s.length≤4294967280 →
    (∃ row rest,vary_line_L0 F n s r=some (.esc (row,rest,true))∧rest.length < s.length∧∀ o,tbl s o r [] 0=tbl rest (o++[row]) [] [] 0) ∨
    (vary_line_L0 F n s r=some (.esc ([],[],false))∧∀ o,(s=[]→o=[]∨r≠[])→good (tbl s o r [] 0)=false):=by
  intro n
  induction n with
  | zero=>intro s r _ _ h; omega
  | succ n ih =>
    intro s r hs hF hn hr
    rw [vary_line_L0]
    rcases value_eq F s hs hF with ⟨w,c,rest,h1,h2,h3,h4⟩ | ⟨w,c,rest,h1,h2⟩
    · rw [h1,call_some]
      simp only [Bool.not_true,cond_false,e10]
      rw [chk_pos (by simp only [List.length_singleton]; omega)]
      simp only [h4,aft]
      cases h5:c == 10
      · simp only [cond_false]
        rcases ih rest (r++[w]) (by omega) (by omega) (by omega) (by simp only [List.length_append,List.length_singleton]; omega) with ⟨row,rest',a1,a2,a3⟩ | ⟨a1,a2⟩
        · exact .inl ⟨row,rest',a1,by omega,a3⟩
        · exact .inr ⟨a1,fun o _=>a2 o fun _=>.inr (by simp)⟩
      · exact .inl ⟨r++[w],rest,rfl,h3,fun o=>rfl⟩
    · right
      rw [h1,call_some]
      refine ⟨rfl,fun o ho=>?_⟩
      cases s with
      | nil =>
        rcases ho rfl with rfl | h
        · show (bif (bif ((0:Int) == 0) then r.isEmpty else false) then decide ((([]:List (List (List UInt8))).length:Int) > 0) else false)=false
          cases r <;> rfl
        · show (bif (bif ((0:Int) == 0) then r.isEmpty else false) then decide ((o.length:Int) > 0) else false)=false
          cases r with
          | nil=>exact absurd rfl h
          | cons=>rfl
      | cons b s=>exact (h2 (by simp) o r).good
theorem line_eq (F:Nat) (s:List UInt8) (hs:s.length≤4294967280) (hF:s.length < F) :
    (∃ row rest,vary_line F s=some (row,rest,true)∧rest.length < s.length∧∀ o,tbl s o [] [] 0=tbl rest (o++[row]) [] [] 0) ∨
    (vary_line F s=some ([],[],false)∧∀ o,(s=[]→o=[])→good (tbl s o [] [] 0)=false):=by
  unfold vary_line
  rcases line_L0 F F s [] hs hF hF (by simpa using hs) with ⟨row,rest,a1,a2,a3⟩ | ⟨a1,a2⟩
  · rw [a1]; exact .inl ⟨row,rest,rfl,a2,a3⟩
  · rw [a1]; exact .inr ⟨rfl,fun o h=>a2 o fun e=>.inl (h e)⟩
theorem parse_rest (F:Nat):∀ (n:Nat) (s:List UInt8) (f:List (List UInt8)) (rows:List (List (List UInt8))),s.length≤4294967280→s.length < F→s.length < n→rows.length+s.length≤4294967280 →
    (good (tbl s (f :: rows) [] [] 0)=true∧∃ rows',got (tbl s (f :: rows) [] [] 0)=f :: rows'∧vary_Parse_L0 F n s f rows false=some (.go (f,rows'))) ∨
    (good (tbl s (f :: rows) [] [] 0)=false∧vary_Parse_L0 F n s f rows false=some (.esc (S_VaryTable.mk [] [],5))):=by
  intro n
  induction n with
  | zero=>intro s f rows _ _ h; omega
  | succ n ih =>
    intro s f rows hs hF hn hr
    rw [vary_Parse_L0]
    cases s with
    | nil =>
      left
      refine ⟨?_,rows,rfl,rfl⟩
      show (bif (bif ((0:Int) == 0) then ([]:List (List UInt8)).isEmpty else false) then decide (((f :: rows).length:Int) > 0) else false)=true
      exact decide_eq_true (by simp only [List.length_cons]; omega)
    | cons b s =>
      rw [show (bif (!((b :: s) == [])) then true else false)=true from rfl,cond_true]
      rcases line_eq F (b :: s) hs hF with ⟨row,rest,a1,a2,a3⟩ | ⟨a1,a2⟩
      · rw [a1,call_some]
        simp only [Bool.not_true,cond_false]
        rw [chk_pos (by simp only [List.length_singleton]; omega),a3]
        exact ih rest f (rows++[row]) (by omega) (by omega) (by omega) (by simp only [List.length_append,List.length_singleton]; omega)
      · right
        rw [a1]
        exact ⟨a2 _ (fun h=>by cases h),rfl⟩
theorem parse_all (F:Nat) (s:List UInt8) (hs:s.length≤4294967280) (hF:s.length < F) :
    (good (tbl s [] [] [] 0)=true∧∃ f rows,got (tbl s [] [] [] 0)=f :: rows∧vary_Parse_L0 F F s [] [] true=some (.go (f,rows))) ∨
    (good (tbl s [] [] [] 0)=false∧vary_Parse_L0 F F s [] [] true=some (.esc (S_VaryTable.mk [] [],5))):=by
  obtain ⟨n,rfl⟩:∃ k,F=k+1:=⟨F - 1,by omega⟩
  rw [vary_Parse_L0,show ∀ x,(bif x then true else true)=true from fun x=>by cases x <;> rfl,cond_true]
  rcases line_eq (n+1) s hs hF with ⟨row,rest,a1,a2,a3⟩ | ⟨a1,a2⟩
  · rw [a1,call_some]
    rw [a3]
    rcases parse_rest (n+1) n rest row [] (by omega) (by omega) (by omega) (by simp only [List.length_nil]; omega) with ⟨b1,rows',b2,b3⟩ | ⟨b1,b2⟩
    · exact .inl ⟨b1,row,rows',b2,b3⟩
    · exact .inr ⟨b1,b2⟩
  · right
    rw [a1]
    exact ⟨a2 [] fun _=>rfl,rfl⟩
end Go.Vm.MrgG
