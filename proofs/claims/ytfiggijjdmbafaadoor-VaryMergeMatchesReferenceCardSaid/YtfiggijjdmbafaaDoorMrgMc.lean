/-
  vary.Merge,plain law 3: fuel of the filling; what is written counts up to 8192 bytes alone; a stretch without braces.
-/
import Derived.Test.YtfiggijjdmbafaaDoorMrgMb
namespace Go.Vm.MrgG
/-- Equal,or both too long. -/
def E (o o':List UInt8):Prop:=(o=o'∧o.length≤8192)∨(8192 < o.length∧8192 < o'.length)
theorem E.refl (o:List UInt8):E o o:=by
  rcases Nat.lt_or_ge 8192 o.length with h | h
  · exact .inr ⟨h,h⟩
  · exact .inl ⟨rfl,h⟩
theorem E.trans {a b c:List UInt8} (h:E a b) (k:E b c):E a c:=by
  rcases h with ⟨rfl,h⟩ | ⟨h1,h2⟩
  · exact k
  · rcases k with ⟨rfl,k⟩ | ⟨k1,k2⟩
    · omega
    · exact .inr ⟨h1,k2⟩
theorem E.symm {a b:List UInt8} (h:E a b):E b a:=by
  rcases h with ⟨rfl,h⟩ | ⟨h1,h2⟩
  · exact .inl ⟨rfl,h⟩
  · exact .inr ⟨h2,h1⟩
theorem putS_true {o:List UInt8} {st:List Bool} {x:List UInt8} (h:st.headD false=true) (ho:o.length≤8192):putS o st x=o++x:=by
  unfold putS
  rw [h,cond_true,decide_eq_true (by omega),cond_true]
theorem putS_long {o:List UInt8} {st:List Bool} {x:List UInt8} (ho:8192 < o.length):putS o st x=o:=by
  unfold putS
  rw [decide_eq_false (by omega)]
  cases st.headD false <;> rfl
theorem putS_false {o:List UInt8} {st:List Bool} {x:List UInt8} (h:st.headD false=false):putS o st x=o:=by
  unfold putS
  rw [h]
  rfl
theorem E.put {o o':List UInt8} (h:E o o') (st:List Bool) (x:List UInt8):E (putS o st x) (putS o' st x):=by
  rcases h with ⟨rfl,_⟩ | ⟨h1,h2⟩
  · exact E.refl _
  · rw [putS_long h1,putS_long h2]; exact .inr ⟨h1,h2⟩
def R:(List UInt8×List Bool) ⊕ Int→(List UInt8×List Bool) ⊕ Int→Prop
  | .inl (o,st),.inl (o',st')=>E o o'∧st=st'
  | .inr e,.inr e'=>e=e'
  | _,_=>False
theorem R.refl:∀ x,R x x
  | .inl (o,_)=>⟨E.refl o,rfl⟩
  | .inr _=>rfl
theorem R.trans {a b c} (h:R a b) (k:R b c):R a c:=by
  match a,b,c,h,k with
  | .inl (_,_),.inl (_,_),.inl (_,_),h,k=>exact ⟨h.1.trans k.1,h.2.trans k.2⟩
  | .inr _,.inr _,.inr _,h,k=>exact Eq.trans h k
  | .inl (_,_),.inr _,_,h,_=>exact h.elim
  | .inr _,.inl (_,_),_,h,_=>exact h.elim
  | .inl (_,_),.inl (_,_),.inr _,_,k=>exact k.elim
  | .inr _,.inr _,.inl (_,_),_,k=>exact k.elim
theorem mg_E (row:List (List UInt8)):∀ (n:Nat) (t:List UInt8) (st:List Bool) (o o':List UInt8),E o o'→R (mg row n t st o) (mg row n t st o'):=by
  intro n
  induction n with
  | zero =>
    intro t st o o' h
    cases t with
    | nil=>exact ⟨h,rfl⟩
    | cons=>exact R.refl _
  | succ n ih =>
    intro t st o o' h
    cases t with
    | nil=>exact ⟨h,rfl⟩
    | cons c s =>
      rw [mg,mg]
      cases two c s
      rotate_left
      · exact ih _ _ _ _ (h.put ..)
      simp only [cond_false]
      cases c == 125
      rotate_left
      · simp only [cond_true]
        cases ((st.length:Int) == 1)
        · exact ih _ _ _ _ h
        · exact R.refl _
      simp only [cond_false]
      cases c != 123
      rotate_left
      · exact ih _ _ _ _ (h.put ..)
      simp only [cond_false]
      cases s.drop (nl s) with
      | nil=>exact R.refl _
      | cons m r =>
        simp only
        cases (bif (bif m != 125 then m != 63 else false) then m != 33 else false)
        rotate_left
        · exact R.refl _
        simp only [cond_false]
        cases lk row (s.take (nl s)) with
        | none=>exact R.refl _
        | some v =>
          simp only
          cases m == 125
          rotate_left
          · exact ih _ _ _ _ (h.put ..)
          simp only [cond_false]
          cases decide ((st.length:Int) > 16)
          rotate_left
          · exact R.refl _
          exact ih _ _ _ _ h
theorem mg_fuel (row:List (List UInt8)):∀ (n m:Nat) (t:List UInt8) (st:List Bool) (o:List UInt8),t.length≤n→t.length≤m→mg row n t st o=mg row m t st o:=by
  intro n
  induction n with
  | zero =>
    intro m t st o h _
    have:t=[]:=List.length_eq_zero_iff.1 (by omega)
    subst this
    cases m <;> rfl
  | succ n ih =>
    intro m t st o h hm
    cases t with
    | nil=>cases m <;> rfl
    | cons c s =>
      simp only [List.length_cons] at h hm
      obtain ⟨m,rfl⟩:∃ k,m=k+1:=⟨m - 1,by omega⟩
      rw [mg,mg]
      have e1:∀ st o,mg row n s.tail st o=mg row m s.tail st o:=fun st o=>ih m _ st o (by rw [List.length_tail]; omega) (by rw [List.length_tail]; omega)
      have e2:∀ st o,mg row n s st o=mg row m s st o:=fun st o=>ih m _ st o (by omega) (by omega)
      simp only [e1,e2]
      cases hr:s.drop (nl s) with
      | nil=>rfl
      | cons k r =>
        have hl:r.length+1+nl s=s.length:=by
          have:=congrArg List.length hr
          rw [List.length_drop,List.length_cons] at this
          omega
        have e3:∀ st o,mg row n r st o=mg row m r st o:=fun st o=>ih m _ st o (by omega) (by omega)
        simp only [e3]
/-- The filling of what is left. -/
def MG (row:List (List UInt8)) (t:List UInt8) (st:List Bool) (o:List UInt8):=mg row t.length t st o
def nb (t:List UInt8):Prop:=∀ c∈t,c≠123∧c≠125
theorem MG_chunk (row:List (List UInt8)) (r:List UInt8) (st:List Bool):∀ (t:List UInt8) (o:List UInt8),nb t→R (MG row (t++r) st o) (MG row r st (putS o st t)):=by
  intro t
  induction t with
  | nil =>
    intro o _
    have:putS o st []=o:=by unfold putS; cases (bif st.headD false then decide ((o.length:Int)≤8192) else false) <;> simp
    rw [this]
    exact R.refl _
  | cons c t ih =>
    intro o h
    obtain ⟨h1,h2⟩:=h c (List.mem_cons_self ..)
    have e:MG row (c :: t++r) st o=MG row (t++r) st (putS o st [c]):=by
      unfold MG
      rw [List.cons_append,List.length_cons,mg]
      have b1:(c == 123)=false:=beq_eq_false_iff_ne.2 h1
      have b2:(c == 125)=false:=beq_eq_false_iff_ne.2 h2
      rw [show two c (t++r)=false by unfold two; rw [b1,b2]; rfl,b2,show (c != 123)=true by rw [bne,b1]; rfl]
      rfl
    rw [e]
    refine (ih _ fun x hx=>h x (List.mem_cons_of_mem _ hx)).trans ?_
    have:E (putS (putS o st [c]) st t) (putS o st (c :: t)):=by
      cases hs:st.headD false
      · rw [putS_false hs,putS_false hs,putS_false hs]; exact E.refl _
      · rcases Nat.lt_or_ge 8192 o.length with hl | hl
        · rw [putS_long hl,putS_long hl,putS_long hl]; exact E.refl _
        · rw [putS_true hs hl,putS_true hs hl]
          rcases Nat.lt_or_ge 8192 (o++[c]).length with hl2 | hl2
          · rw [putS_long hl2]
            exact .inr ⟨hl2,by simp only [List.length_append,List.length_cons,List.length_nil] at hl2 ⊢; omega⟩
          · rw [putS_true hs hl2,List.append_assoc]
            exact E.refl _
    exact mg_E row _ r st _ _ this
end Go.Vm.MrgG
