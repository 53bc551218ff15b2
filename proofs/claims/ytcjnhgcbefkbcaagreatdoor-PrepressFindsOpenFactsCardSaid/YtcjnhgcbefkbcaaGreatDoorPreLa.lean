/-
  PREPRESS,PLAIN,part 1: names,numbers,the order of strings.
-/
import Derived.Test.YtcjnhgcbefkbcaaGreatDoorPreF
import Derived.Test.YtcjnhgcbefkbcaaGreatDoorVmD
import Derived.Test.YtcjnhgcbefkbcaaGreatDoorVmC
namespace Go.Vm.PreG
theorem nat_toNat (i:Nat):((i:Nat):Int).toNat=i:=rfl
theorem getD_head {s:List UInt8} {i:Nat} (hi:i < s.length):s.drop i=s.getD i 0 :: s.drop (i+1):=by
  rw [List.getD_eq_getElem?_getD,List.getElem?_eq_getElem hi]
  exact List.drop_eq_getElem_cons hi
/-! ## Numbers -/
theorem Decimal_L0 (F:Nat):∀ (u:Nat),0 < u→u≤4294967296→∀ (n:Nat) (x:Int) (acc:List UInt8),x.natAbs=u→u < n→acc.length+u≤9000000000 →
    ref3_Decimal_L0 F n x acc=some (Lib.decDigits u++acc):=by
  intro u
  induction u using Nat.strongRecOn with
  | _ u ih =>
    intro hu hu2 n x acc hx hn ha
    obtain ⟨n,rfl⟩:∃ q,n=q+1:=⟨n - 1,by omega⟩
    have h0:(x != 0)=true:=by simp; omega
    have hq:(x.tdiv 10).natAbs=u / 10:=by rw [Int.natAbs_tdiv,hx]; rfl
    have hr:(x.tmod 10).natAbs=u % 10:=by rw [Int.natAbs_tmod,hx]; rfl
    have hd:(bif (decide ((x.tmod (10:Int)) < (0:Int))) then some (IntKind.i64.wrap (0 - (x.tmod (10:Int)))) else some (x.tmod (10:Int)))=some ((u % 10:Nat):Int):=by
      by_cases h:x.tmod 10 < 0
      · rw [decide_eq_true h,cond_true,wrap_id (by omega)]; congr 1; omega
      · rw [decide_eq_false h,cond_false]; congr 1; omega
    have hw:IntKind.u8.wrap (IntKind.i64.wrap (48+((u % 10:Nat):Int)))=((48+u % 10:Nat):Int):=by rw [wrap_id (by omega),wrap_u8 (by omega)]; omega
    rw [ref3_Decimal_L0,h0,cond_true,hd,call_some,hw,nat_toNat,chk_pos ⟨by omega,by omega⟩,chk_pos (by simp; omega),wrap_id (by omega),Lib.decDigits]
    by_cases h:u < 10
    · rw [dif_pos h]
      have hz:x.tdiv 10=0:=by omega
      obtain ⟨n,rfl⟩:∃ q,n=q+1:=⟨n - 1,by omega⟩
      rw [hz,ref3_Decimal_L0,show ((0:Int) != 0)=false from rfl,cond_false,Nat.mod_eq_of_lt h]
    · rw [dif_neg h,ih (u / 10) (by omega) (by omega) (by omega) n _ _ hq (by omega) (by simp; omega),List.append_assoc]
theorem decDigits_len:∀ (u:Nat),(Lib.decDigits u).length≤u+1:=by
  intro u
  induction u using Nat.strongRecOn with
  | _ u ih =>
    rw [Lib.decDigits]
    split
    · simp
    · have:=ih (u / 10) (by omega)
      simp; omega
theorem Decimal_eq {F:Nat} (hF:4294967300≤F) {x:Int} (h : -4294967296≤x∧x≤4294967296):ref3_Decimal F x=some (Lib.itoa x):=by
  unfold ref3_Decimal Lib.itoa
  by_cases h0:x=0
  · subst h0; rw [if_neg (by omega)]; simp [Lib.decDigits]
  · have hb:(x == 0)=false:=by simpa using h0
    have hl:=decDigits_len x.natAbs
    rw [hb,cond_false,Decimal_L0 F x.natAbs (by omega) (by omega) F x [] rfl (by omega) (by simp; omega),call_some,List.append_nil]
    by_cases h1:x < 0
    · rw [if_pos h1,decide_eq_true h1,cond_true,chk_pos (by simp; omega)]; rfl
    · rw [if_neg h1,decide_eq_false h1,cond_false,show x.toNat=x.natAbs by omega]
/-! ## Zero bytes -/
/-! ## The order of strings -/
theorem bL_irr:∀ x:List UInt8,Op.bytesLess x x=false
  | []=>rfl
  | a :: x=>by
    have h:¬ a < a:=fun h=>Nat.lt_irrefl _ h
    simp [Op.bytesLess,bL_irr x]
theorem bL_tri:∀ x y:List UInt8,(!(Op.bytesLess x y))=(Op.bytesLess y x || y == x)
  | [],[]=>rfl
  | [],b :: y=>by simp [Op.bytesLess]
  | a :: x,[]=>by simp [Op.bytesLess]
  | a :: x,b :: y=>by
    have ih:=bL_tri x y
    simp only [Op.bytesLess]
    have e1:(b :: y == a :: x)=((b == a) && (y == x)):=rfl
    rw [e1]
    rcases Nat.lt_trichotomy a.toNat b.toNat with h | h | h
    · have h1:a < b:=h
      have h2:¬ b < a:=fun h'=>Nat.lt_asymm h h'
      have h3:(b == a)=false:=by
        rw [beq_eq_false_iff_ne]
        intro e
        rw [e] at h
        exact Nat.lt_irrefl _ h
      simp [h1,h2,h3]
    · have e:a=b:=UInt8.toNat_inj.1 h
      subst e
      have h1:¬ a < a:=fun h=>Nat.lt_irrefl _ h
      simp [h1,ih]
    · have h1:b < a:=h
      have h2:¬ a < b:=fun h'=>Nat.lt_asymm h h'
      have h3:(a == b)=false:=by
        rw [beq_eq_false_iff_ne]
        intro e
        rw [e] at h
        exact Nat.lt_irrefl _ h
      simp [h1,h2,h3]
theorem bL_trans:∀ {x y z:List UInt8},Op.bytesLess x y=true→Op.bytesLess y z=true→Op.bytesLess x z=true
  | _,[],_,h,_=>by cases ‹List UInt8› <;> simp [Op.bytesLess] at h
  | _,_ :: _,[],_,h=>by simp [Op.bytesLess] at h
  | [],_ :: _,_ :: _,_,_=>rfl
  | a :: x,b :: y,c :: z,h1,h2=>by
    simp only [Op.bytesLess,Bool.or_eq_true,decide_eq_true_eq,Bool.and_eq_true,beq_iff_eq] at h1 h2 ⊢
    rcases h1 with h1 | ⟨rfl,h1⟩ <;> rcases h2 with h2 | ⟨rfl,h2⟩
    · exact .inl (UInt8.lt_trans h1 h2)
    · exact .inl h1
    · exact .inl h2
    · exact .inr ⟨rfl,bL_trans h1 h2⟩
/-! ## Names -/
def ok0 (c:UInt8):Bool:=bif decide ((97:Int)≤(c.toNat:Int)) then decide ((c.toNat:Int)≤122) else false
def okd (c:UInt8):Bool:=bif decide ((48:Int)≤(c.toNat:Int)) then decide ((c.toNat:Int)≤57) else false
def ok1 (c:UInt8):Bool:=ok0 c || okd c || (c.toNat:Int) == 45
def plainB:List UInt8→Bool
  | []=>true
  | c :: t=>ok0 c && t.all ok1
def nm (s:List UInt8):Bool:=(!(s == []) && decide ((s.length:Int)≤16) && plainB s) && !([([114,117,108,101]:List UInt8),[110,111,116],[97,110,100],[111,114]].any (s == ·))
theorem index_L0 (F:Nat) (l:List (List UInt8)) (x:List UInt8) (hl:l.length≤4294967296):∀ (m i n:Nat),i+m=l.length→m < n→∃ o,slices_Index_string_L0 F l x n (i:Int)=some o∧((∃ j:Nat,o=.esc (j:Int))∧(l.drop i).any (x == ·)=true∨o=.go ()∧(l.drop i).any (x == ·)=false):=by
  intro m
  induction m with
  | zero =>
    intro i n hi hn
    obtain ⟨n,rfl⟩:∃ q,n=q+1:=⟨n - 1,by omega⟩
    obtain rfl:i=l.length:=by omega
    exact ⟨.go (),by rw [slices_Index_string_L0,dec_end,cond_false],.inr ⟨rfl,by simp⟩⟩
  | succ m ih =>
    intro i n hi hn
    obtain ⟨n,rfl⟩:∃ q,n=q+1:=⟨n - 1,by omega⟩
    have hlt:i < l.length:=by omega
    have hd:l.drop i=l.getD i [] :: l.drop (i+1):=by
      rw [List.getD_eq_getElem?_getD,List.getElem?_eq_getElem hlt]
      exact List.drop_eq_getElem_cons hlt
    rw [slices_Index_string_L0,dec_lt hlt,cond_true,chk_in hlt,nat_toNat,wrap_succ (by omega),hd]
    cases h:x == l.getD i [] with
    | true=>exact ⟨.esc i,by rw [cond_true],.inl ⟨⟨i,rfl⟩,by simp only [List.any_cons,h,Bool.true_or]⟩⟩
    | false =>
      rw [cond_false]
      simp only [List.any_cons,h,Bool.false_or]
      exact ih (i+1) n (by omega) (by omega)
theorem contains_eq {F:Nat} {l:List (List UInt8)} {x:List UInt8} (hl:l.length≤4294967296) (hF:l.length < F):slices_Contains_string F l x=some (l.any (x == ·)):=by
  unfold slices_Contains_string slices_Index_string
  obtain ⟨o,h1,h2⟩:=index_L0 F l x hl l.length 0 F (by omega) (by omega)
  have h1':slices_Index_string_L0 F l x F (0:Int)=some o:=h1
  rw [h1']
  simp only [List.drop_zero] at h2
  rcases h2 with ⟨⟨j,rfl⟩,h⟩ | ⟨rfl,h⟩
  · rw [callE_esc',call_some,h,decide_eq_true (by omega)]
  · rw [callE_go,call_some,h]
    rfl
theorem plain_L0 (F:Nat) (s:List UInt8) (hs:s.length≤maxLen):∀ (m i n:Nat),1≤i→i+m=s.length→m < n →
    prepress_plain_L0 F s n (i:Int)=some (bif (s.drop i).all ok1 then .go () else .esc false):=by
  have hmax:maxLen=9223372036854775807:=rfl
  intro m
  induction m with
  | zero =>
    intro i n h1 hi hn
    obtain ⟨n,rfl⟩:∃ q,n=q+1:=⟨n - 1,by omega⟩
    obtain rfl:i=s.length:=by omega
    rw [prepress_plain_L0,dec_end,cond_false,List.drop_length]; rfl
  | succ m ih =>
    intro i n h1 hi hn
    obtain ⟨n,rfl⟩:∃ q,n=q+1:=⟨n - 1,by omega⟩
    have hlt:i < s.length:=by omega
    have hi0:((i:Int) == 0)=false:=by simp; omega
    rw [prepress_plain_L0,dec_lt hlt,cond_true,chk_in hlt,nat_toNat,lett_eq,lett_eq,lett_eq,hi0,cond_false,wrap_succ (by omega),ih (i+1) n (by omega) (by omega) (by omega),getD_head hlt,List.all_cons]
    generalize s.getD i 0=c
    change (bif (bif (!ok0 c) then (bif (!okd c) then ((c.toNat:Int) != 45) else false) else false) then _ else _)=_
    unfold ok1
    cases h1:ok0 c <;> cases h2:okd c <;> cases h3:(c.toNat:Int) == 45 <;> simp [bne,h3]
theorem plain_eq {F:Nat} {s:List UInt8} (hs:s.length≤maxLen) (hF:maxLen < F):prepress_plain F s=some (nm s):=by
  have hmax:maxLen=9223372036854775807:=rfl
  unfold prepress_plain
  obtain ⟨G,rfl⟩:∃ q,F=q+1:=⟨F - 1,by omega⟩
  have h0:prepress_plain_L0 (G+1) s (G+1) (0:Int)=some (bif plainB s then .go () else .esc false):=by
    cases s with
    | nil=>rfl
    | cons c t =>
      have hlen:(c :: t).length=t.length+1:=rfl
      have:=plain_L0 (G+1) (c :: t) hs t.length 1 G (by omega) (by rw [hlen]; omega) (by omega)
      rw [prepress_plain_L0,decide_eq_true (show (0:Int) < ((c :: t).length:Int) by omega),cond_true,chk_pos ⟨by omega,by omega⟩,show (0:Int).toNat=0 from rfl,lett_eq,lett_eq,lett_eq,show IntKind.i64.wrap ((0:Int)+1)=((1:Nat):Int) from rfl,this]
      simp only [List.getD_cons_zero,List.drop_succ_cons,List.drop_zero,plainB]
      change (bif (bif (!ok0 c) then true else false) then _ else _)=_
      cases ok0 c <;> simp
  rw [h0]
  have hc:slices_Contains_string (G+1) ([([114,117,108,101]:List UInt8),([110,111,116]:List UInt8),([97,110,100]:List UInt8),([111,114]:List UInt8)]) s=some ([([114,117,108,101]:List UInt8),[110,111,116],[97,110,100],[111,114]].any (s == ·)):=contains_eq (by decide) (by simp; omega)
  rw [hc]
  unfold nm
  generalize ([([114,117,108,101]:List UInt8),[110,111,116],[97,110,100],[111,114]].any (s == ·))=R
  cases plainB s
  · simp [callE_esc']
  · rw [cond_true,callE_go]
    cases (s == []) <;> cases decide ((s.length:Int)≤16) <;> simp [call_some,lett_eq]
theorem isName_L0 (F:Nat) (s:List UInt8) (hs:s.length≤maxLen):∀ (m i n:Nat),i+m=s.length→m < n →
    ref3_IsName_L0 F s n (i:Int)=some (bif (s.drop i).all ok1 then .go () else .esc false):=by
  have hmax:maxLen=9223372036854775807:=rfl
  intro m
  induction m with
  | zero =>
    intro i n hi hn
    obtain ⟨n,rfl⟩:∃ q,n=q+1:=⟨n - 1,by omega⟩
    obtain rfl:i=s.length:=by omega
    rw [ref3_IsName_L0,dec_end,cond_false,List.drop_length]; rfl
  | succ m ih =>
    intro i n hi hn
    obtain ⟨n,rfl⟩:∃ q,n=q+1:=⟨n - 1,by omega⟩
    have hlt:i < s.length:=by omega
    have hp:0≤(i:Int)∧(i:Int) < s.length:=⟨by omega,by omega⟩
    rw [ref3_IsName_L0,dec_lt hlt,cond_true,chk_in hlt,chk_pos (fun _=>hp),lett_eq,chk_pos (fun _=>hp),nat_toNat,wrap_succ (by omega),ih (i+1) n (by omega) (by omega),getD_head hlt,List.all_cons]
    generalize s.getD i 0=c
    have e:(bif decide ((c.toNat:Int) ≥ 97) then decide ((c.toNat:Int)≤122) else false)=ok0 c:=rfl
    rw [e]
    change call (bif (((!ok0 c) == true) && true) then some (okd c) else some false) _=_
    unfold ok1
    cases h1:ok0 c <;> cases h2:okd c <;> cases h3:(c.toNat:Int) == 45 <;> cases h4:(s.drop (i+1)).all (fun c=>ok0 c || okd c || (c.toNat:Int) == 45) <;> simp [call_some,lett_eq,chk,bne,h3,hlt]
theorem isName_eq {F:Nat} {s:List UInt8} (hs:s.length≤maxLen) (hF:maxLen < F):ref3_IsName F s=some (!(s == []) && decide ((s.length:Int)≤16) && plainB s):=by
  have hmax:maxLen=9223372036854775807:=rfl
  unfold ref3_IsName
  cases s with
  | nil=>rfl
  | cons c t =>
    have hp:0≤(0:Int)∧(0:Int) < ((c :: t).length:Int):=⟨by omega,by simp⟩
    have hL:=isName_L0 F (c :: t) hs (c :: t).length 0 F (by omega) (by omega)
    have hL':ref3_IsName_L0 F (c :: t) F (0:Int)=some (bif (c :: t).all ok1 then .go () else .esc false):=by simpa using hL
    rw [chk_pos (fun _=>hp),lett_eq,chk_pos (fun _=>hp),hL']
    have e0:((c :: t) == [])=false:=rfl
    rw [e0,cond_false]
    have eg:(c :: t).getD (0:Int).toNat 0=c:=rfl
    rw [eg]
    simp only [Bool.not_false,Bool.true_and,plainB,List.all_cons]
    by_cases h16:((c :: t).length:Int)≤16
    · rw [decide_eq_true h16,decide_eq_false (by omega),cond_false]
      by_cases ha:(c.toNat:Int) < 97
      · have:ok0 c=false:=by unfold ok0; rw [decide_eq_false (by omega)]; rfl
        rw [decide_eq_true ha,this]; rfl
      · by_cases hb:(c.toNat:Int) > 122
        · have:ok0 c=false:=by unfold ok0; rw [decide_eq_true (by omega),decide_eq_false (by omega)]; rfl
          rw [decide_eq_false ha,decide_eq_true hb,this]; rfl
        · have:ok0 c=true:=by unfold ok0; rw [decide_eq_true (by omega),decide_eq_true (by omega)]; rfl
          have h1:ok1 c=true:=by unfold ok1; rw [this]; rfl
          rw [decide_eq_false ha,decide_eq_false hb,this,h1]
          cases t.all ok1 <;> rfl
    · rw [decide_eq_false h16,decide_eq_true (by omega)]; rfl
theorem ruleName_eq {F:Nat} {s:List UInt8} (hs:s.length≤maxLen) (hF:maxLen < F):ref3_ruleName F s=some (nm s):=by
  unfold ref3_ruleName
  rw [isName_eq hs hF,call_some,lett_eq,lett_eq]
  unfold nm
  simp only [List.any_cons,List.any_nil,Bool.or_false]
  cases !(s == []) && decide ((s.length:Int)≤16) && plainB s <;> cases (s == [114,117,108,101]) <;> cases (s == [110,111,116]) <;> cases (s == [97,110,100]) <;> cases (s == [111,114]) <;> rfl
theorem nm_len {s:List UInt8} (h:nm s=true):s.length≤16:=by
  unfold nm at h
  simp only [Bool.and_eq_true,decide_eq_true_eq] at h
  omega
end Go.Vm.PreG
