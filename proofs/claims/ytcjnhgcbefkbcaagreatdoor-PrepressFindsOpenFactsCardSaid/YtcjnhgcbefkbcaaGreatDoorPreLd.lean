/-
  PREPRESS,PLAIN,part 4: the text of a condition.
-/
import Derived.Test.YtcjnhgcbefkbcaaGreatDoorPreLc
namespace Go.Vm.PreG
theorem digits_le:∀ (k u:Nat),1≤k→u < 10 ^ k→(Lib.decDigits u).length≤k:=by
  intro k
  induction k with
  | zero=>intro u h; omega
  | succ k ih =>
    intro u _ hu
    rw [Lib.decDigits]
    split
    · simp
    · rename_i h
      rcases Nat.eq_zero_or_pos k with h0 | h0
      · subst h0; simp at hu; omega
      · have:=ih (u / 10) h0 (by rw [Nat.pow_succ] at hu; omega)
        simp; omega
theorem itoa_le {x:Int} (h : -4294967296≤x∧x≤4294967296):(Lib.itoa x).length≤12:=by
  have:=digits_le 10 x.natAbs (by omega) (by omega)
  unfold Lib.itoa
  split
  · simp; omega
  · rw [show x.toNat=x.natAbs by omega]; omega
theorem itoa_le4 {x:Int} (h:0≤x∧x≤1000):(Lib.itoa x).length≤4:=by
  have:=digits_le 4 x.natAbs (by omega) (by omega)
  unfold Lib.itoa
  split
  · omega
  · rw [show x.toNat=x.natAbs by omega]; exact this
def absI (x:Int):Int:=bif decide (x < 0) then -x else x
def timesT (x:Int):List UInt8:=bif absI x == 1 then [] else Lib.itoa (absI x)++[32]
def signT (first:Bool) (x:Int):List UInt8:=bif decide (x < 0) then (bif first then [45] else [32,45,32]) else (bif first then [] else [32,43,32])
def termT (first:Bool) (t:S_PrepressTerm):List UInt8:=signT first t.f0++timesT t.f0++t.f1
def termsT:Nat→List S_PrepressTerm→List UInt8
  | _,[]=>[]
  | i,t :: l=>termT (i == 0) t++termsT (i+1) l
theorem signT_len (b:Bool) (x:Int):(signT b x).length≤3:=by unfold signT; cases decide (x < 0) <;> cases b <;> simp
theorem absI_ok {t:S_PrepressTerm} (h:TermOk t):1≤absI t.f0∧absI t.f0≤1000:=by
  have h1:=h.nz; have h2:=h.lo; have h3:=h.hi
  unfold absI
  by_cases hx:t.f0 < 0
  · rw [decide_eq_true hx,cond_true]; omega
  · rw [decide_eq_false hx,cond_false]; omega
theorem timesT_len {t:S_PrepressTerm} (h:TermOk t):(timesT t.f0).length≤5:=by
  have:=absI_ok h
  have:=itoa_le4 (x:=absI t.f0) (by omega)
  unfold timesT
  cases absI t.f0 == 1 <;> simp; omega
theorem termT_len (b:Bool) {t:S_PrepressTerm} (h:TermOk t):(termT b t).length≤24:=by
  have h1:=signT_len b t.f0; have h2:=timesT_len h; have h3:=nm_len h.name
  unfold termT
  simp; omega
theorem termsT_len:∀ (l:List S_PrepressTerm) (i:Nat),(∀ t∈l,TermOk t)→(termsT i l).length≤24 * l.length
  | [],_,_=>by simp [termsT]
  | t :: l,i,h=>by
    have h1:=termT_len (i == 0) (h t (by simp))
    have h2:=termsT_len l (i+1) (fun x hx=>h x (by simp [hx]))
    simp [termsT]; omega
theorem repl_plus:Lib.replaceAll ([32,43,32]:List UInt8) [43] [45]=[32,45,32]:=by decide +kernel
theorem count_plus:Lib.count ([32,43,32]:List UInt8) [43]=1:=by decide +kernel
theorem show_L1 (F:Nat) (a0:S_PrepressCond) (hok:∀ t∈a0.f1,TermOk t) (h8:a0.f1.length≤8):∀ (m i n:Nat) (acc:List UInt8),i+m=a0.f1.length→m < n→acc.length+24 * m≤1000 →
    prepress_show_L1 F a0 n acc (i:Int)=some (acc++termsT i (a0.f1.drop i)):=by
  intro m
  induction m with
  | zero =>
    intro i n acc hi hn _
    obtain ⟨n,rfl⟩:∃ q,n=q+1:=⟨n - 1,by omega⟩
    obtain rfl:i=a0.f1.length:=by omega
    rw [prepress_show_L1,dec_end,cond_false,List.drop_length]; simp [termsT]
  | succ m ih =>
    intro i n acc hi hn hacc
    obtain ⟨n,rfl⟩:∃ q,n=q+1:=⟨n - 1,by omega⟩
    have hlt:i < a0.f1.length:=by omega
    have hmem:a0.f1.getD i t0∈a0.f1:=by
      rw [List.getD_eq_getElem?_getD,List.getElem?_eq_getElem hlt]
      exact List.getElem_mem hlt
    have ht:=hok _ hmem
    rw [prepress_show_L1,dec_lt hlt,cond_true,chk_in hlt,nat_toNat,wrap_succ (by omega),getD_dropT (d:=t0) hlt,termsT]
    generalize a0.f1.getD i t0=t at *
    have h1:=ht.nz; have h2:=ht.lo; have h3:=ht.hi; have hnl:=nm_len ht.name
    have hA:=absI_ok ht
    have hI:=itoa_le4 (x:=absI t.f0) (by omega)
    -- the sign
    obtain ⟨sg,hsg,hsgl⟩:∃ sg,sg=signT (i == 0) t.f0∧sg.length≤3:=⟨_,rfl,signT_len _ _⟩
    have e1:(call (bif (decide ((i:Int) > (0:Int))) then some ([32,43,32]:List UInt8) else some []) fun v3 =>
        call (bif (decide (t.f0 < (0:Int))) then
          chk (v3.length < 4294967281∧1≤([43]:List UInt8).length∧v3.length+Lib.count v3 ([43]:List UInt8) * ([45]:List UInt8).length≤140737488355328) <|
          bif ((i:Int) == (0:Int)) then some (([45]:List UInt8),IntKind.i64.wrap (0 - t.f0)) else some ((Lib.replaceAll v3 ([43]:List UInt8) ([45]:List UInt8)),IntKind.i64.wrap (0 - t.f0))
        else some (v3,t.f0)) fun r=>some r)=some (sg,absI t.f0):=by
      rw [hsg]
      unfold signT absI
      by_cases hi0:i=0
      · subst hi0
        rw [decide_eq_false (by omega),cond_false,call_some]
        by_cases hx:t.f0 < 0
        · rw [decide_eq_true hx,cond_true,chk_pos (by simp [Lib.count]; decide +kernel),wrap_id (by omega)]
          simp [call_some]
        · rw [decide_eq_false hx]; simp [call_some]
      · rw [decide_eq_true (by omega),cond_true,call_some]
        have hib:((i:Int) == 0)=false:=by simp; omega
        have hib2:(i == 0)=false:=by simpa using hi0
        by_cases hx:t.f0 < 0
        · rw [decide_eq_true hx,cond_true,count_plus,chk_pos (by simp),hib,cond_false,repl_plus,hib2,wrap_id (by omega)]
          simp [call_some]
        · rw [decide_eq_false hx,hib2]; simp [call_some]
    have e2:∀ (K:List UInt8×Int→Option (List UInt8)),(call (bif (decide ((i:Int) > (0:Int))) then some ([32,43,32]:List UInt8) else some []) fun v3 =>
        call (bif (decide (t.f0 < (0:Int))) then
          chk (v3.length < 4294967281∧1≤([43]:List UInt8).length∧v3.length+Lib.count v3 ([43]:List UInt8) * ([45]:List UInt8).length≤140737488355328) <|
          bif ((i:Int) == (0:Int)) then some (([45]:List UInt8),IntKind.i64.wrap (0 - t.f0)) else some ((Lib.replaceAll v3 ([43]:List UInt8) ([45]:List UInt8)),IntKind.i64.wrap (0 - t.f0))
        else some (v3,t.f0)) K)=K (sg,absI t.f0):=by
      intro K
      have key:∀ {α γ:Type} {x:Option α} {f:α→Option γ} {K:γ→Option (List UInt8)},(call x fun v=>call (f v) K)=call (call x fun v=>call (f v) fun r=>some r) K:=by
        intro α γ x f K
        cases x with
        | none=>rfl
        | some a =>
          show call (f a) K=call (call (f a) fun r=>some r) K
          cases f a <;> rfl
      rw [key,e1]
      rfl
    refine (e2 _).trans ?_
    dsimp only
    rw [chk_pos (by omega)]
    have e3:(bif (absI t.f0 != (1:Int)) then
          chk (-9223372036854775808≤absI t.f0∧absI t.f0≤9223372036854775807) <|
          chk ((Lib.itoa (absI t.f0)).length+([32]:List UInt8).length≤9223372036854775807) <|
          chk ((acc++sg).length+((Lib.itoa (absI t.f0))++([32]:List UInt8)).length≤9223372036854775807) <|
          some ((acc++sg)++((Lib.itoa (absI t.f0))++([32]:List UInt8)))
        else some (acc++sg))=some (acc++sg++timesT t.f0):=by
      unfold timesT
      cases hb:absI t.f0 == 1 with
      | true=>simp [bne,hb]
      | false =>
        rw [bne,hb,Bool.not_false,cond_true,cond_false,chk_pos (by omega),chk_pos (by simp; omega),chk_pos (by simp; omega)]
    rw [e3,call_some]
    have hT:=timesT_len ht
    rw [chk_pos (by simp; omega),ih (i+1) n _ (by omega) (by omega) (by simp; omega),hsg]
    simp [termT]
theorem ref_L1 {F:Nat} (hF:4294967300≤F) (a0:S_PrepressCond) (hok:∀ t∈a0.f1,TermOk t) (h8:a0.f1.length≤8):∀ (m i n:Nat) (acc:List UInt8),i+m=a0.f1.length→m < n→acc.length+24 * m≤1000 →
    ref3_condText_L1 F a0 n acc (i:Int)=some (acc++termsT i (a0.f1.drop i)):=by
  intro m
  induction m with
  | zero =>
    intro i n acc hi hn _
    obtain ⟨n,rfl⟩:∃ q,n=q+1:=⟨n - 1,by omega⟩
    obtain rfl:i=a0.f1.length:=by omega
    rw [ref3_condText_L1,dec_end,cond_false,List.drop_length]; simp [termsT]
  | succ m ih =>
    intro i n acc hi hn hacc
    obtain ⟨n,rfl⟩:∃ q,n=q+1:=⟨n - 1,by omega⟩
    have hlt:i < a0.f1.length:=by omega
    have hmem:a0.f1.getD i t0∈a0.f1:=by
      rw [List.getD_eq_getElem?_getD,List.getElem?_eq_getElem hlt]
      exact List.getElem_mem hlt
    have ht:=hok _ hmem
    rw [ref3_condText_L1,dec_lt hlt,cond_true,chk_in hlt,nat_toNat,wrap_succ (by omega),getD_dropT (d:=t0) hlt,termsT]
    generalize a0.f1.getD i t0=t at *
    have h1:=ht.nz; have h2:=ht.lo; have h3:=ht.hi; have hnl:=nm_len ht.name
    have hA:=absI_ok ht
    have hI:=itoa_le4 (x:=absI t.f0) (by omega)
    have hsgl:=signT_len (i == 0) t.f0
    have e1:(lett ((bif (decide (t.f0 < (0:Int))) then ((i:Int) == (0:Int)) else false)) fun z1 =>
        bif z1 then chk (acc.length+([45]:List UInt8).length≤9223372036854775807) <| some (acc++([45]:List UInt8))
        else
          bif (decide (t.f0 < (0:Int))) then chk (acc.length+([32,45,32]:List UInt8).length≤9223372036854775807) <| some (acc++([32,45,32]:List UInt8))
          else
            bif (decide ((i:Int) > (0:Int))) then chk (acc.length+([32,43,32]:List UInt8).length≤9223372036854775807) <| some (acc++([32,43,32]:List UInt8))
            else some acc)=some (acc++signT (i == 0) t.f0):=by
      rw [lett_eq,chk_pos (by simp; omega),chk_pos (by simp; omega),chk_pos (by simp; omega)]
      unfold signT
      by_cases hi0:i=0
      · subst hi0
        by_cases hx:t.f0 < 0
        · rw [decide_eq_true hx]; simp
        · rw [decide_eq_false hx]; simp
      · have hib:((i:Int) == 0)=false:=by simp; omega
        have hib2:(i == 0)=false:=by simpa using hi0
        rw [decide_eq_true (show (i:Int) > 0 by omega),hib,hib2]
        by_cases hx:t.f0 < 0
        · rw [decide_eq_true hx]; rfl
        · rw [decide_eq_false hx]; rfl
    rw [e1,call_some]
    have e2:(bif (decide (t.f0 < (0:Int))) then some (IntKind.i64.wrap (0 - t.f0)) else some t.f0)=some (absI t.f0):=by
      unfold absI
      rw [wrap_id (by omega)]
      by_cases hx:t.f0 < 0
      · rw [decide_eq_true hx]; simp
      · rw [decide_eq_false hx]; rfl
    rw [e2,call_some]
    have e3:(bif (decide (absI t.f0 > (1:Int))) then
          call (ref3_Decimal F (absI t.f0)) fun y1 =>
          chk (y1.length+([32]:List UInt8).length≤9223372036854775807) <|
          chk ((acc++signT (i == 0) t.f0).length+(y1++([32]:List UInt8)).length≤9223372036854775807) <|
          some ((acc++signT (i == 0) t.f0)++(y1++([32]:List UInt8)))
        else some (acc++signT (i == 0) t.f0))=some (acc++signT (i == 0) t.f0++timesT t.f0):=by
      unfold timesT
      by_cases hb:absI t.f0=1
      · rw [hb]; simp
      · have hb2:(absI t.f0 == 1)=false:=by simpa using hb
        rw [decide_eq_true (by omega),cond_true,Decimal_eq hF (by omega),call_some,hb2,cond_false,chk_pos (by simp; omega),chk_pos (by simp; omega)]
    rw [e3,call_some]
    have hT:=timesT_len ht
    rw [chk_pos (by simp; omega),ih (i+1) n _ (by omega) (by omega) (by simp; omega)]
    simp [termT]
end Go.Vm.PreG
