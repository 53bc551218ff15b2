/-
  token,plain law: what Print prints is what the reference spells.
-/
import Derived.Test.YtldmbabgcdmjcaaGreatDoorObjF
import Derived.Test.YtldmbabgcdmjcaaGreatDoorVmD
import Derived.Test.YtldmbabgcdmjcaaGreatDoorVmC
namespace Go.Vm.ObjG
theorem nat_toNat (i:Nat):((i:Nat):Int).toNat=i:=rfl
theorem getD_head {s:List UInt8} {i:Nat} (hi:i < s.length):s.drop i=s.getD i 0 :: s.drop (i+1):=by
  rw [List.getD_eq_getElem?_getD,List.getElem?_eq_getElem hi]
  exact List.drop_eq_getElem_cons hi
/-! ## Letters,digits,words -/
def lt (x:Int):Bool:=bif (bif (decide ((97:Int)≤x)) then (decide (x≤(122:Int))) else false) then true else (bif (decide ((65:Int)≤x)) then (decide (x≤(90:Int))) else false)
def dg (x:Int):Bool:=bif (decide ((48:Int)≤x)) then (decide (x≤(57:Int))) else false
theorem tletter (F:Nat) (x:Int):token_letter F x=some (lt x):=rfl
theorem tdigit (F:Nat) (x:Int):token_digit F x=some (dg x):=rfl
theorem rletter (F:Nat) (x:Int):ref3_letter F x=some (lt x):=by
  unfold ref3_letter lt
  rw [lett_eq]
  congr 1
  cases h:(bif (decide ((97:Int)≤x)) then (decide (x≤(122:Int))) else false) <;> cases h2:(bif (decide ((65:Int)≤x)) then (decide (x≤(90:Int))) else false) <;> simp_all
theorem rdigit (F:Nat) (x:Int):ref3_digit F x=some (dg x):=rfl
theorem dg_lt {x:Int} (h:dg x=true):lt x=false∧x≠42∧x≠95∧x≠46:=by
  simp [dg] at h
  refine ⟨?_,by omega,by omega,by omega⟩
  simp [lt]; omega
/-- The bytes a word may have. -/
def okb (c:UInt8):Bool:=lt c.toNat || dg c.toNat || (c.toNat:Int) == 42 || (c.toNat:Int) == 95 || (c.toNat:Int) == 46
theorem word_L0 (F:Nat) (s:List UInt8) (hs:s.length≤maxLen):∀ (m i n:Nat),1≤i→i+m=s.length→m < n →
    token_word_L0 F s n (i:Int)=some (if (s.drop i).all okb then .go () else .esc ([],5)):=by
  have hmax:maxLen=9223372036854775807:=rfl
  intro m
  induction m with
  | zero =>
    intro i n h1 hi hn
    obtain ⟨n,rfl⟩:∃ q,n=q+1:=⟨n - 1,by omega⟩
    obtain rfl:i=s.length:=by omega
    rw [token_word_L0,dec_end,cond_false,List.drop_length]; rfl
  | succ m ih =>
    intro i n h1 hi hn
    obtain ⟨n,rfl⟩:∃ q,n=q+1:=⟨n - 1,by omega⟩
    have hlt:i < s.length:=by omega
    have hi0:((i:Int) == 0)=false:=by simp; omega
    rw [token_word_L0,dec_lt hlt,cond_true,chk_in hlt,nat_toNat,tletter,call_some,hi0,wrap_succ (by omega),ih (i+1) n (by omega) (by omega) (by omega),getD_head hlt,List.all_cons]
    generalize s.getD i 0=c
    rw [tdigit]
    unfold okb
    cases h1:lt c.toNat <;> cases h2:dg c.toNat <;> cases h3:(c.toNat:Int) == 42 <;> cases h4:(c.toNat:Int) == 95 <;> cases h5:(c.toNat:Int) == 46 <;>
      simp [call_some,lett_eq,bne,h3,h4,h5]
theorem wordError_L0 (F:Nat) (s:List UInt8) (hs:s.length≤maxLen):∀ (m i n:Nat),i+m=s.length→m < n →
    ref3_wordError_L0 F s n (i:Int)=some (if (s.drop i).all okb then .go () else .esc 5):=by
  have hmax:maxLen=9223372036854775807:=rfl
  intro m
  induction m with
  | zero =>
    intro i n hi hn
    obtain ⟨n,rfl⟩:∃ q,n=q+1:=⟨n - 1,by omega⟩
    obtain rfl:i=s.length:=by omega
    rw [ref3_wordError_L0,dec_end,cond_false,List.drop_length]; rfl
  | succ m ih =>
    intro i n hi hn
    obtain ⟨n,rfl⟩:∃ q,n=q+1:=⟨n - 1,by omega⟩
    have hlt:i < s.length:=by omega
    have hp:0≤(i:Int)∧(i:Int) < s.length:=⟨by omega,by omega⟩
    rw [ref3_wordError_L0,dec_lt hlt,cond_true,chk_in hlt,nat_toNat,rletter,call_some,wrap_succ (by omega),ih (i+1) n (by omega) (by omega),getD_head hlt,List.all_cons,chk_pos (fun _=>hp)]
    generalize s.getD i 0=c
    rw [rdigit]
    unfold okb
    cases h1:lt c.toNat <;> cases h2:dg c.toNat <;> cases h3:(c.toNat:Int) == 42 <;> cases h4:(c.toNat:Int) == 95 <;> cases h5:(c.toNat:Int) == 46 <;>
      simp [call_some,lett_eq,chk,bne,h3,h4,h5,hlt]
/-- What a word is: not empty,no digit ahead,only its bytes. -/
def wordy (s:List UInt8):Bool := !(s == []) && !(dg (s.getD 0 0).toNat) && s.all okb
theorem word_eq {F:Nat} {s:List UInt8} (hs:s.length≤maxLen) (hF:s.length < F) :
    token_word F s=some (if wordy s then (if s.length > 31 then ([],2) else (s,0)) else ([],5)):=by
  have hmax:maxLen=9223372036854775807:=rfl
  unfold token_word token_limited
  cases s with
  | nil=>obtain ⟨F,rfl⟩:∃ q,F=q+1:=⟨F - 1,by simp at hF; omega⟩; rfl
  | cons c t =>
    have hlen:(c :: t).length=t.length+1:=rfl
    obtain ⟨G,rfl⟩:∃ q,F=q+1:=⟨F - 1,by omega⟩
    have h0:token_word_L0 (G+1) (c :: t) (G+1) (0:Int)=some (if wordy (c :: t) then .go () else .esc ([],5)):=by
      have:=word_L0 (G+1) (c :: t) hs t.length 1 G (by omega) (by rw [hlen]; omega) (by omega)
      rw [token_word_L0,decide_eq_true (show (0:Int) < ((c :: t).length:Int) by omega),cond_true,chk_pos ⟨by omega,by omega⟩,show (0:Int).toNat=0 from rfl,tletter,call_some,show IntKind.i64.wrap ((0:Int)+1)=((1:Nat):Int) from rfl,this]
      have hd:dg c.toNat=true→lt c.toNat=false∧((c.toNat:Int) == 42)=false∧((c.toNat:Int) == 95)=false∧((c.toNat:Int) == 46)=false:=fun h=>by
        obtain ⟨h1,h2,h3,h4⟩:=dg_lt h
        exact ⟨h1,by simpa using h2,by simpa using h3,by simpa using h4⟩
      simp only [List.getD_cons_zero,List.drop_succ_cons,List.drop_zero,wordy,List.all_cons,tdigit,bne,lett_eq,okb]
      revert hd
      generalize ((c.toNat:Int) == 42)=C,((c.toNat:Int) == 95)=D,((c.toNat:Int) == 46)=E,lt c.toNat=A,dg c.toNat=B,t.all okb=X
      cases A <;> cases B <;> cases C <;> cases D <;> cases E <;> simp [call_some]
    rw [h0]
    cases wordy (c :: t)
    · rfl
    · rw [if_pos rfl,callE_go,show ((c :: t) == [])=false from rfl,cond_false,if_pos rfl]
      by_cases h:(c :: t).length > 31
      · rw [if_pos h,decide_eq_true (by omega)]; rfl
      · rw [if_neg h,decide_eq_false (by omega)]; rfl
theorem wordError_eq {F:Nat} {s:List UInt8} (hs:s.length≤maxLen) (hF:s.length < F) :
    ref3_wordError F s=some (if s.all okb then (if s.length > 31 then 2 else 0) else 5):=by
  have hmax:maxLen=9223372036854775807:=rfl
  unfold ref3_wordError
  rw [show (0:Int)=((0:Nat):Int) from rfl,wordError_L0 F s hs s.length 0 F (by omega) (by omega),List.drop_zero]
  cases s.all okb
  · rfl
  · rw [if_pos rfl,callE_go,if_pos rfl]
    by_cases h:s.length > 31
    · rw [if_pos h,decide_eq_true (by omega)]; rfl
    · rw [if_neg h,decide_eq_false (by omega)]; rfl
/-! ## Numbers -/
theorem Decimal_L0 (F:Nat):∀ (u:Nat),0 < u→u≤4294967296→∀ (n:Nat) (x:Int) (acc:List UInt8),x.natAbs=u→u < n→acc.length+u≤9000000000 →
    ref3_Decimal_L0 F n x acc=some (Lib.decDigits u++acc):=by
  intro u
  induction u using Nat.strongRecOn with
  | _ u ih =>
    intro hu hu2 n x acc hx hn ha
    obtain ⟨n,rfl⟩:∃ q,n=q+1:=⟨n - 1,by omega⟩
    have h0:(x != 0)=true:=by simp; omega
    have hq:(x.tdiv 10).natAbs=u / 10:=by rw [Int.natAbs_tdiv,hx]; rfl
    have hr:(x.tmod 10).natAbs=u % 10:=by rw [Int.natAbs_tmod,hx]; rfl
    have hd:(bif (decide ((x.tmod (10:Int)) < (0:Int))) then some (IntKind.i64.wrap (0 - (x.tmod (10:Int)))) else some (x.tmod (10:Int)))=some ((u % 10:Nat):Int):=by
      by_cases h:x.tmod 10 < 0
      · rw [decide_eq_true h,cond_true,wrap_id (by omega)]; congr 1; omega
      · rw [decide_eq_false h,cond_false]; congr 1; omega
    have hw:IntKind.u8.wrap (IntKind.i64.wrap (48+((u % 10:Nat):Int)))=((48+u % 10:Nat):Int):=by rw [wrap_id (by omega),wrap_u8 (by omega)]; omega
    rw [ref3_Decimal_L0,h0,cond_true,hd,call_some,hw,nat_toNat,chk_pos ⟨by omega,by omega⟩,chk_pos (by simp; omega),wrap_id (by omega),Lib.decDigits]
    by_cases h:u < 10
    · rw [dif_pos h]
      have hz:x.tdiv 10=0:=by omega
      obtain ⟨n,rfl⟩:∃ q,n=q+1:=⟨n - 1,by omega⟩
      rw [hz,ref3_Decimal_L0,show ((0:Int) != 0)=false from rfl,cond_false,Nat.mod_eq_of_lt h]
    · rw [dif_neg h,ih (u / 10) (by omega) (by omega) (by omega) n _ _ hq (by omega) (by simp; omega),List.append_assoc]
theorem decDigits_len:∀ (u:Nat),(Lib.decDigits u).length≤u+1:=by
  intro u
  induction u using Nat.strongRecOn with
  | _ u ih =>
    rw [Lib.decDigits]
    split
    · simp
    · have:=ih (u / 10) (by omega)
      simp; omega
theorem Decimal_eq {F:Nat} (hF:4294967300≤F) {x:Int} (h : -4294967296≤x∧x≤4294967296):ref3_Decimal F x=some (Lib.itoa x):=by
  unfold ref3_Decimal Lib.itoa
  by_cases h0:x=0
  · subst h0; rw [if_neg (by omega)]; simp [Lib.decDigits]
  · have hb:(x == 0)=false:=by simpa using h0
    have hl:=decDigits_len x.natAbs
    rw [hb,cond_false,Decimal_L0 F x.natAbs (by omega) (by omega) F x [] rfl (by omega) (by simp; omega),call_some,List.append_nil]
    by_cases h1:x < 0
    · rw [if_pos h1,decide_eq_true h1,cond_true,chk_pos (by simp; omega)]; rfl
    · rw [if_neg h1,decide_eq_false h1,cond_false,show x.toNat=x.natAbs by omega]
/-! ## Zero bytes -/
theorem indexByte_zero (l:List UInt8):decide (Lib.indexByte l 0 ≥ 0)=l.any (fun c=>(c.toNat:Int) == 0):=by
  induction l with
  | nil=>rfl
  | cons b l ih =>
    rw [Lib.indexByte,List.any_cons,← ih]
    have hge:=Lib.indexByte_ge l 0
    by_cases h:b=0
    · subst h; rfl
    · have h1:(b == 0)=false:=by simpa using h
      have h2:((b.toNat:Int) == 0)=false:=by
        rw [beq_eq_false_iff_ne]
        intro hc
        exact h (UInt8.toNat_inj.1 (by show b.toNat=0; omega))
      rw [h1,h2,Bool.false_or,if_neg (by simp)]
      by_cases h3:Lib.indexByte l 0 = -1
      · rw [h3]; rfl
      · rw [if_neg (by simpa using h3),decide_eq_true (by omega),decide_eq_true (by omega)]
theorem Spelled_L0 (F:Nat) (a:S_Token) (hs:a.f2.length≤maxLen):∀ (m i n:Nat) (b:Bool),i+m=a.f2.length→m < n →
    ref3_Spelled_L0 F a n b (i:Int)=some (b || (a.f2.drop i).any (fun c=>(c.toNat:Int) == 0)):=by
  have hmax:maxLen=9223372036854775807:=rfl
  intro m
  induction m with
  | zero =>
    intro i n b hi hn
    obtain ⟨n,rfl⟩:∃ q,n=q+1:=⟨n - 1,by omega⟩
    obtain rfl:i=a.f2.length:=by omega
    rw [ref3_Spelled_L0,dec_end,cond_false,List.drop_length]; simp
  | succ m ih =>
    intro i n b hi hn
    obtain ⟨n,rfl⟩:∃ q,n=q+1:=⟨n - 1,by omega⟩
    have hlt:i < a.f2.length:=by omega
    rw [ref3_Spelled_L0,dec_lt hlt,cond_true,chk_pos (fun _=>⟨by omega,by omega⟩),nat_toNat,wrap_succ (by omega),ih (i+1) n _ (by omega) (by omega),getD_head hlt,List.any_cons]
    cases b <;> simp
end Go.Vm.ObjG
