/-
  TICKETS,PLAIN,part 3: the printed form of an object,and its error.
-/
import Derived.Test.YtldmbabgcdmjcaaGreatDoorObjLf
namespace Go.Vm.ObjG
abbrev tk0:S_Token:=S_Token.mk 0 0 [] 0 0
/-- Does what is printed of a token end with a letter of a word? -/
def lastR (t:S_Token):Bool:=(t.f0 == 1 || t.f0 == 2) || (t.f0 == 4 || t.f0 == 5)
theorem TOk.kind {F:Nat} {t:S_Token} (h:TOk F t):1≤t.f0∧t.f0≤9:=by
  obtain ⟨s,h1,_,_⟩:=h
  obtain ⟨k,v,x,p,q⟩:=t
  by_cases hk:k < 1∨9 < k
  · have h14:token_Print F ⟨k,v,x,p,q⟩=some ([],14):=by
      rcases hk with h | h <;> simp [token_Print,token_check,call_some,callE_esc',lett_eq,h]
    rw [h14] at h1
    cases h1
  · simp only
    omega
theorem gate {α:Type} {p:Prop} [Decidable p] {b:Bool} {k:Option α} (h:b=true→p):chk (((b == true) && true)=true→p) k=k:=chk_pos fun h'=>h (by simpa using h')
theorem gcal {b:Bool} {X:Option Bool} {x:Bool} (h:X=some x):(bif ((b == true) && true) then X else some false)=some (b && x):=by cases b <;> simp [h]
theorem join_eq {F:Nat} (l:List S_Token) (y:(List S_Token)×Int×Int) (hy:y.1=l) (hok:AllOk F l) (hl:l.length≤1000000) :
    ∀ (m i n:Nat) (v1:List UInt8),i+m=l.length→m < n→v1.length≤8192 →
      (token_Join_L0 F l n v1 (decide (0 < i) && lastR (l.getD (i - 1) tk0)) i=some (.esc ([],2))∧ref3_Shown_L0 F y n v1 i=some (.esc ([],2))) ∨
      ∃ r:List UInt8,r.length≤8192∧token_Join_L0 F l n v1 (decide (0 < i) && lastR (l.getD (i - 1) tk0)) i=some (.go r)∧ref3_Shown_L0 F y n v1 i=some (.go r):=by
  intro m
  induction m with
  | zero =>
    intro i n v1 h hn hv
    obtain ⟨n,rfl⟩:∃ k,n=k+1:=⟨n - 1,by omega⟩
    obtain rfl:i=l.length:=by omega
    refine .inr ⟨v1,hv,?_,?_⟩
    · rw [token_Join_L0,dec_end,cond_false]
    · rw [ref3_Shown_L0,hy,dec_end,cond_false]
  | succ m ih =>
    intro i n v1 h hn hv
    obtain ⟨n,rfl⟩:∃ k,n=k+1:=⟨n - 1,by omega⟩
    have hi:i < l.length:=by omega
    have hmem:∀ j,j < l.length→TOk F (l.getD j tk0):=by
      intro j hj
      apply hok
      rw [List.getD_eq_getElem?_getD,List.getElem?_eq_getElem hj]
      exact List.getElem_mem hj
    obtain ⟨s,p1,p2,p3⟩:=hmem i hi
    obtain ⟨s1,s2,s3,s4⟩:=p3 rfl
    simp only at s1 s2 s3 s4
    have hsl:0 < s.length:=List.length_pos_iff.2 s1
    have hprev:0 < i→1≤(l.getD (i - 1) tk0).f0∧(l.getD (i - 1) tk0).f0≤9:=fun h0=>(hmem (i - 1) (by omega)).kind
    -- is there a blank?
    obtain ⟨bl,hbl⟩:∃ bl,bl=((decide (0 < i) && lastR (l.getD (i - 1) tk0)) && reg (s.getD 0 0)):=⟨_,rfl⟩
    obtain ⟨v4,hv4⟩:∃ v4,v4=if bl then v1++[32] else v1:=⟨_,rfl⟩
    have hv4l:v4.length≤8193:=by
      rw [hv4]
      split
      · rw [List.length_append,List.length_singleton]; omega
      · omega
    have hA:(chk ((((decide (0 < i) && lastR (l.getD (i - 1) tk0)) == true) && true)=true→0≤(0:Int)∧(0:Int) < s.length) <|
        call ((bif (((decide (0 < i) && lastR (l.getD (i - 1) tk0)) == true) && true) then token_regular F ((s.getD (0:Int).toNat 0).toNat:Int) else some false)) fun y2 =>
        bif (bif (decide (0 < i) && lastR (l.getD (i - 1) tk0)) then y2 else false) then
          call (strings_Builder_WriteByte F (32:Int) v1) fun y3=>some y3.2
        else some v1)=some v4:=by
      rw [gate (fun _=>⟨by omega,by omega⟩),gcal (regular_eq F _),call_some,and_cond]
      have e1:((decide (0 < i) && lastR (l.getD (i - 1) tk0)) && ((decide (0 < i) && lastR (l.getD (i - 1) tk0)) && regI ((s.getD (0:Int).toNat 0).toNat:Int)))=bl:=by
        rw [hbl]
        cases (decide (0 < i) && lastR (l.getD (i - 1) tk0)) <;> rfl
      rw [e1,hv4]
      cases bl with
      | false=>rfl
      | true =>
        simp only [cond_true,if_true]
        unfold strings_Builder_WriteByte
        rw [chk_pos (by omega),chk_pos (by simp; omega)]
        rfl
    have hB:(lett ((bif (((y.1.getD (i:Int).toNat (S_Token.mk 0 0 [] 0 0)).f0) == (1:Int)) then true else (((y.1.getD (i:Int).toNat (S_Token.mk 0 0 [] 0 0)).f0) == (5:Int)))) fun z1 =>
        chk ((((bif (decide ((i:Int) > (0:Int))) then z1 else false) == true) && true)=true→0≤(IntKind.i64.wrap ((i:Int) - (1:Int)))∧(IntKind.i64.wrap ((i:Int) - (1:Int))) < y.1.length) <|
        lett ((bif (bif (decide ((i:Int) > (0:Int))) then z1 else false) then (((y.1.getD (IntKind.i64.wrap ((i:Int) - (1:Int))).toNat (S_Token.mk 0 0 [] 0 0)).f0) != (3:Int)) else false)) fun z2 =>
        chk (((z2 == true) && true)=true→0≤(IntKind.i64.wrap ((i:Int) - (1:Int)))∧(IntKind.i64.wrap ((i:Int) - (1:Int))) < y.1.length) <|
        lett ((decide (((y.1.getD (IntKind.i64.wrap ((i:Int) - (1:Int))).toNat (S_Token.mk 0 0 [] 0 0)).f0) < (6:Int)))) fun z3 =>
        bif (bif z2 then z3 else false) then
          chk (v1.length+([(UInt8.ofNat (32:Int).toNat)]).length≤4294967296) <|
          some (v1++([(UInt8.ofNat (32:Int).toNat)]))
        else
          some v1)=some v4:=by
      rw [hy]
      simp only [lett_eq,or_cond,and_cond]
      have hin:decide ((i:Int) > 0)=true→0≤(IntKind.i64.wrap ((i:Int) - (1:Int)))∧(IntKind.i64.wrap ((i:Int) - (1:Int))) < l.length:=by
        intro h0
        simp at h0
        rw [wrap_pred (by omega) (by omega)]
        omega
      rw [gate (fun h'=>hin (by simp at h' ⊢; omega)),gate (fun h'=>hin (by simp at h' ⊢; omega))]
      have e1:(((decide ((i:Int) > 0) && ((l.getD (i:Int).toNat (S_Token.mk 0 0 [] 0 0)).f0 == 1 || (l.getD (i:Int).toNat (S_Token.mk 0 0 [] 0 0)).f0 == 5)) && (l.getD (IntKind.i64.wrap ((i:Int) - 1)).toNat (S_Token.mk 0 0 [] 0 0)).f0 != 3) && decide ((l.getD (IntKind.i64.wrap ((i:Int) - 1)).toNat (S_Token.mk 0 0 [] 0 0)).f0 < 6))=bl:=by
        rw [hbl,s2]
        have e0:l.getD (i:Int).toNat (S_Token.mk 0 0 [] 0 0)=l.getD i tk0:=rfl
        rw [e0]
        by_cases h0:0 < i
        · rw [wrap_pred h0 (by omega)]
          have e2:l.getD ((i - 1:Nat):Int).toNat (S_Token.mk 0 0 [] 0 0)=l.getD (i - 1) tk0:=rfl
          rw [e2,decide_eq_true h0,decide_eq_true (show (i:Int) > 0 by omega)]
          have hp:=hprev h0
          have e3:lastR (l.getD (i - 1) tk0)=((l.getD (i - 1) tk0).f0 != 3 && decide ((l.getD (i - 1) tk0).f0 < 6)):=by
            unfold lastR
            generalize (l.getD (i - 1) tk0).f0=q at hp
            rw [Bool.eq_iff_iff]
            simp only [Bool.or_eq_true,Bool.and_eq_true,beq_iff_eq,bne_iff_ne,decide_eq_true_eq]
            omega
          rw [e3]
          cases ((l.getD i tk0).f0 == 1 || (l.getD i tk0).f0 == 5) <;> cases (l.getD (i - 1) tk0).f0 != 3 <;> cases decide ((l.getD (i - 1) tk0).f0 < 6) <;> rfl
        · rw [decide_eq_false h0,decide_eq_false (show ¬ (i:Int) > 0 by omega)]
          rfl
      rw [e1,hv4]
      cases bl with
      | false=>rfl
      | true =>
        simp only [cond_true,if_true]
        rw [chk_pos (by simp; omega)]
        rfl
    have hpre:IntKind.i64.wrap ((s.length:Int) - 1)=((s.length - 1:Nat):Int):=wrap_pred (by omega) (by omega)
    rw [token_Join_L0,ref3_Shown_L0]
    rw [dec_lt hi,cond_true,chk_in hi]
    have e0:l.getD (i:Int).toNat (S_Token.mk 0 0 [] 0 0)=l.getD i tk0:=rfl
    have e0':y.1.getD (i:Int).toNat (S_Token.mk 0 0 [] 0 0)=l.getD i tk0:=by rw [hy]; rfl
    have hiy:decide ((i:Int) < (y.1.length:Int))=true:=by rw [hy]; exact dec_lt hi
    rw [hiy,cond_true,chk_pos (by rw [hy]; omega)]
    rw [e0,p1,call_some]
    simp only [bne_self_eq_false,cond_false]
    rw [hA,call_some,hB,e0',p2,call_some,call_some]
    simp only
    unfold strings_Builder_WriteString strings_Builder_Len
    have hck:v4.length+s.length≤4294967296:=by omega
    have hcs:(0:Int)≤((s.length - 1:Nat):Int)∧((s.length - 1:Nat):Int) < (s.length:Int):=by omega
    simp only [chk_pos hck,call_some,hpre,chk_pos hcs]
    by_cases hbig:((v4++s).length:Int) > 8192
    · rw [decide_eq_true hbig]
      exact .inl ⟨rfl,rfl⟩
    · rw [decide_eq_false hbig,cond_false,cond_false,regular_eq,call_some,wrap_succ (by omega)]
      have hlast:regI (((s.getD ((s.length - 1:Nat):Int).toNat 0).toNat:Nat):Int)=(decide (0 < i+1) && lastR (l.getD (i+1 - 1) tk0)):=by
        have:=s3
        rw [decide_eq_true (show 0 < i+1 by omega),Bool.true_and]
        exact this
      rw [hlast]
      exact ih (i+1) n (v4++s) (by omega) (by omega) (by omega)
end Go.Vm.ObjG
