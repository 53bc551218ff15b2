/-
  token,plain law 2: names,texts; the law.
-/
import Derived.Test.YtldmbabgcdmjcaaGreatDoorObjLa
namespace Go.Vm.ObjG
abbrev hexs:List UInt8:=[48,49,50,51,52,53,54,55,56,57,97,98,99,100,101,102]
def hx (k:Nat):UInt8:=hexs.getD k 0
theorem hexA_nat:∀ n,n < 256→((n:Nat):Int).fdiv (2 ^ (min (4:Int).toNat IntKind.u8.bits))=((n / 16:Nat):Int) ∧
    IntKind.u8.wrap ((BitVec.ofInt IntKind.u8.bits ((n:Nat):Int) &&& BitVec.ofInt IntKind.u8.bits (15:Int)).toNat:Int)=((n % 16:Nat):Int):=by decide +kernel
theorem hexA (c:UInt8):(c.toNat:Int).fdiv (2 ^ (min (4:Int).toNat IntKind.u8.bits))=((c.toNat / 16:Nat):Int):=(hexA_nat _ c.toNat_lt).1
theorem hexB (c:UInt8):IntKind.u8.wrap ((BitVec.ofInt IntKind.u8.bits (c.toNat:Int) &&& BitVec.ofInt IntKind.u8.bits (15:Int)).toNat:Int)=((c.toNat % 16:Nat):Int):=(hexA_nat _ c.toNat_lt).2
theorem hexC_nat:∀ n,n < 256→IntKind.u8.wrap (((n:Nat):Int).tdiv 16)=((n / 16:Nat):Int)∧((n:Nat):Int).tmod 16=((n % 16:Nat):Int):=by decide +kernel
theorem hexC (c:UInt8):IntKind.u8.wrap ((c.toNat:Int).tdiv 16)=((c.toNat / 16:Nat):Int):=(hexC_nat _ c.toNat_lt).1
theorem hexD (c:UInt8):(c.toNat:Int).tmod 16=((c.toNat % 16:Nat):Int):=(hexC_nat _ c.toNat_lt).2
theorem tdg (F:Nat) (b:Bool) (x:Int):(bif ((b == false) && true) then token_digit F x else some false)=some (bif b then false else dg x):=by cases b <;> rfl
theorem rdg (F:Nat) (b:Bool) (x:Int):(bif ((b == false) && ((true == true) && true)) then ref3_digit F x else some false)=some (bif b then false else dg x):=by cases b <;> rfl
theorem rdg3 (F:Nat) (b:Bool) (x:Int):(bif ((b == false) && ((false == true) && true)) then ref3_digit F x else some false)=some false:=by cases b <;> rfl
theorem rlt (F:Nat) (x:Int):(bif ((true == true) && true) then ref3_letter F x else some false)=some (lt x):=rletter F x
theorem rlt3 (F:Nat) (x:Int):(bif ((false == true) && true) then ref3_letter F x else some false)=some false:=rfl
def nameOk (c:UInt8):Bool:=bif (bif (bif (bif lt c.toNat then true else (bif lt c.toNat then false else dg c.toNat)) then true else ((c.toNat:Int) == 95)) then true else ((c.toNat:Int) == 45)) then true else ((c.toNat:Int) == 46)
def nameB (c:UInt8):List UInt8:=bif nameOk c then [c] else [35,hx (c.toNat / 16),hx (c.toNat % 16)]
theorem nameB_len (c:UInt8):(nameB c).length≤4:=by unfold nameB; cases nameOk c <;> simp
def par (c:UInt8):Bool:=bif (bif ((c.toNat:Int) == 40) then true else ((c.toNat:Int) == 41)) then true else ((c.toNat:Int) == 92)
def ctl (c:UInt8):Bool:=bif (decide ((c.toNat:Int) < 32)) then true else (decide ((c.toNat:Int) > 125))
def textB (c:UInt8):List UInt8 :=
  bif (c.toNat:Int) == 10 then [92,110] else bif (c.toNat:Int) == 9 then [92,116] else bif par c then [92,c] else
  bif ctl c then [92,120,hx (c.toNat / 16),hx (c.toNat % 16)] else [c]
theorem textB_len (c:UInt8):(textB c).length≤4:=by
  unfold textB
  cases (c.toNat:Int) == 10 <;> cases (c.toNat:Int) == 9 <;> cases par c <;> cases ctl c <;> simp
theorem textB10 {c:UInt8} (h:((c.toNat:Int) == 10)=true):textB c=[92,110]:=by unfold textB; rw [h]; rfl
theorem textB9 {c:UInt8} (h:((c.toNat:Int) == 10)=false) (h2:((c.toNat:Int) == 9)=true):textB c=[92,116]:=by unfold textB; rw [h,h2]; rfl
theorem textBp {c:UInt8} (h:((c.toNat:Int) == 10)=false) (h2:((c.toNat:Int) == 9)=false) (h3:par c=true):textB c=[92,c]:=by unfold textB; rw [h,h2,h3]; rfl
theorem textBc {c:UInt8} (h:((c.toNat:Int) == 10)=false) (h2:((c.toNat:Int) == 9)=false) (h3:par c=false) (h4:ctl c=true):textB c=[92,120,hx (c.toNat / 16),hx (c.toNat % 16)]:=by unfold textB; rw [h,h2,h3,h4]; rfl
theorem textBn {c:UInt8} (h:((c.toNat:Int) == 10)=false) (h2:((c.toNat:Int) == 9)=false) (h3:par c=false) (h4:ctl c=false):textB c=[c]:=by unfold textB; rw [h,h2,h3,h4]; rfl
theorem name_L0 (F:Nat) (s:List UInt8) (hs:s.length≤100000):∀ (m i n:Nat) (acc:List UInt8),i+m=s.length→m < n→acc.length+4 * m≤1000000 →
    token_printedName_L0 F s n acc (i:Int)=some (acc++(s.drop i).flatMap nameB):=by
  intro m
  induction m with
  | zero =>
    intro i n acc hi hn _
    obtain ⟨n,rfl⟩:∃ q,n=q+1:=⟨n - 1,by omega⟩
    obtain rfl:i=s.length:=by omega
    rw [token_printedName_L0,dec_end,cond_false,List.drop_length]; simp
  | succ m ih =>
    intro i n acc hi hn ha
    obtain ⟨n,rfl⟩:∃ q,n=q+1:=⟨n - 1,by omega⟩
    have hlt:i < s.length:=by omega
    rw [token_printedName_L0,dec_lt hlt,cond_true,chk_in hlt,nat_toNat,wrap_succ (by omega),getD_head hlt,List.flatMap_cons]
    have hl:=nameB_len (s.getD i 0)
    generalize s.getD i 0=c at *
    have hc:0≤(c.toNat:Int)∧(c.toNat:Int) < 256:=⟨by omega,by have:=c.toNat_lt; omega⟩
    simp only [tletter,tdg,call_some,lett_eq,strings_Builder_WriteByte,hexA,hexB,nat_toNat]
    have hi2:=fun acc' (hq:acc'.length≤acc.length+4)=>ih (i+1) n acc' (by omega) (by omega) (by omega)
    change call (bif nameOk c then _ else _) _=_
    cases h:nameOk c
    · have hh:∀ k,k < 16→0≤((hexs.getD k 0).toNat:Int)∧((hexs.getD k 0).toNat:Int) < 256:=fun k _=>⟨by omega,by have:=(hexs.getD k 0).toNat_lt; omega⟩
      rw [cond_false,chk_pos ⟨by omega,by omega⟩,chk_pos (by simp; omega),call_some,chk_in (by simp; omega),chk_pos (hh _ (by omega)),chk_pos (by simp; omega),call_some,
        chk_in (by simp; omega),chk_pos (hh _ (by omega)),chk_pos (by simp; omega),call_some,call_some,hi2 _ (by simp)]
      unfold nameB
      rw [h]
      simp [hx]
    · rw [cond_true,chk_pos hc,chk_pos (by simp; omega),call_some,call_some,hi2 _ (by simp)]
      unfold nameB
      rw [h]
      simp
theorem spelledName_L3 (F:Nat) (a:S_Token) (hk:(a.f0 == 2)=true) (hs:a.f2.length≤100000):∀ (m i n:Nat) (acc:List UInt8),i+m=a.f2.length→m < n→acc.length+4 * m≤1000000 →
    ref3_Spelled_L3 F a n acc (i:Int)=some (acc++(a.f2.drop i).flatMap nameB):=by
  intro m
  induction m with
  | zero =>
    intro i n acc hi hn _
    obtain ⟨n,rfl⟩:∃ q,n=q+1:=⟨n - 1,by omega⟩
    obtain rfl:i=a.f2.length:=by omega
    rw [ref3_Spelled_L3,dec_end,cond_false,List.drop_length]; simp
  | succ m ih =>
    intro i n acc hi hn ha
    obtain ⟨n,rfl⟩:∃ q,n=q+1:=⟨n - 1,by omega⟩
    have hlt:i < a.f2.length:=by omega
    rw [ref3_Spelled_L3,dec_lt hlt,cond_true,chk_in hlt,nat_toNat,wrap_succ (by omega),getD_head hlt,List.flatMap_cons,hk]
    have hl:=nameB_len (a.f2.getD i 0)
    generalize a.f2.getD i 0=c at *
    have hc:0≤(c.toNat:Int)∧(c.toNat:Int) < 256:=⟨by omega,by have:=c.toNat_lt; omega⟩
    have hh:∀ k,k < 16→0≤((hexs.getD k 0).toNat:Int)∧((hexs.getD k 0).toNat:Int) < 256:=fun k _=>⟨by omega,by have:=(hexs.getD k 0).toNat_lt; omega⟩
    simp only [rlt,rdg,call_some,lett_eq,hexC,hexD,nat_toNat]
    have hi2:=fun acc' (hq:acc'.length≤acc.length+4)=>ih (i+1) n acc' (by omega) (by omega) (by omega)
    have hr:=c.toNat_lt
    rw [chk_in (by simp; omega),chk_in (by simp; omega),chk_pos (hh _ (by omega)),chk_pos (hh _ (by omega))]
    change call (bif (bif true then nameOk c else false) then _ else _) _=_
    rw [cond_true]
    cases h:nameOk c
    · rw [cond_false,cond_true,chk_pos (by simp; omega),chk_pos (by simp; omega),call_some,hi2 _ (by simp)]
      unfold nameB
      rw [h]
      simp [hx]
    · rw [cond_true,chk_pos hc,chk_pos (by simp; omega),call_some,hi2 _ (by simp)]
      unfold nameB
      rw [h]
      simp
theorem text_L0 (F:Nat) (s:List UInt8) (hs:s.length≤100000):∀ (m i n:Nat) (acc:List UInt8),i+m=s.length→m < n→acc.length+4 * m≤1000000 →
    token_printedText_L0 F s n acc (i:Int)=some (acc++(s.drop i).flatMap textB):=by
  intro m
  induction m with
  | zero =>
    intro i n acc hi hn _
    obtain ⟨n,rfl⟩:∃ q,n=q+1:=⟨n - 1,by omega⟩
    obtain rfl:i=s.length:=by omega
    rw [token_printedText_L0,dec_end,cond_false,List.drop_length]; simp
  | succ m ih =>
    intro i n acc hi hn ha
    obtain ⟨n,rfl⟩:∃ q,n=q+1:=⟨n - 1,by omega⟩
    have hlt:i < s.length:=by omega
    rw [token_printedText_L0,dec_lt hlt,cond_true,chk_in hlt,nat_toNat,wrap_succ (by omega),getD_head hlt,List.flatMap_cons]
    generalize s.getD i 0=c at *
    have hc:0≤(c.toNat:Int)∧(c.toNat:Int) < 256:=⟨by omega,by have:=c.toNat_lt; omega⟩
    have hr:=c.toNat_lt
    have hh:∀ k,k < 16→0≤((hexs.getD k 0).toNat:Int)∧((hexs.getD k 0).toNat:Int) < 256:=fun k _=>⟨by omega,by have:=(hexs.getD k 0).toNat_lt; omega⟩
    simp only [lett_eq,strings_Builder_WriteByte,strings_Builder_WriteString,hexA,hexB,nat_toNat]
    have hi2:=fun acc' (hq:acc'.length≤acc.length+4)=>ih (i+1) n acc' (by omega) (by omega) (by omega)
    change call (bif _ then _ else bif _ then _ else bif par c then _ else bif ctl c then _ else _) _=_
    cases h:(c.toNat:Int) == 10
    · cases h2:(c.toNat:Int) == 9
      · cases h3:par c
        · cases h4:ctl c
          · simp only [cond_false]
            rw [chk_pos hc,chk_pos (by simp; omega),call_some,call_some,hi2 _ (by simp)]
            rw [textBn h h2 h3 h4]
            simp
          · simp only [cond_false,cond_true]
            rw [chk_pos (by simp; omega),call_some,chk_in (by simp; omega),chk_pos (hh _ (by omega)),chk_pos (by simp; omega),call_some,
              chk_in (by simp; omega),chk_pos (hh _ (by omega)),chk_pos (by simp; omega),call_some,call_some,hi2 _ (by simp)]
            rw [textBc h h2 h3 h4]
            simp [hx]
        · simp only [cond_false,cond_true]
          rw [chk_pos ⟨by omega,by omega⟩,chk_pos (by simp; omega),call_some,chk_pos hc,chk_pos (by simp; omega),call_some,call_some,hi2 _ (by simp)]
          rw [textBp h h2 h3]
          simp
      · simp only [cond_false,cond_true]
        rw [chk_pos (by simp; omega),call_some,call_some,hi2 _ (by simp)]
        rw [textB9 h h2]
        simp
    · simp only [cond_true]
      rw [chk_pos (by simp; omega),call_some,call_some,hi2 _ (by simp)]
      rw [textB10 h]
      simp
theorem spelledText_L3 (F:Nat) (a:S_Token) (hk:(a.f0 == 2)=false) (hs:a.f2.length≤100000):∀ (m i n:Nat) (acc:List UInt8),i+m=a.f2.length→m < n→acc.length+4 * m≤1000000 →
    ref3_Spelled_L3 F a n acc (i:Int)=some (acc++(a.f2.drop i).flatMap textB):=by
  intro m
  induction m with
  | zero =>
    intro i n acc hi hn _
    obtain ⟨n,rfl⟩:∃ q,n=q+1:=⟨n - 1,by omega⟩
    obtain rfl:i=a.f2.length:=by omega
    rw [ref3_Spelled_L3,dec_end,cond_false,List.drop_length]; simp
  | succ m ih =>
    intro i n acc hi hn ha
    obtain ⟨n,rfl⟩:∃ q,n=q+1:=⟨n - 1,by omega⟩
    have hlt:i < a.f2.length:=by omega
    rw [ref3_Spelled_L3,dec_lt hlt,cond_true,chk_in hlt,nat_toNat,wrap_succ (by omega),getD_head hlt,List.flatMap_cons,hk]
    generalize a.f2.getD i 0=c at *
    have hc:0≤(c.toNat:Int)∧(c.toNat:Int) < 256:=⟨by omega,by have:=c.toNat_lt; omega⟩
    have hh:∀ k,k < 16→0≤((hexs.getD k 0).toNat:Int)∧((hexs.getD k 0).toNat:Int) < 256:=fun k _=>⟨by omega,by have:=(hexs.getD k 0).toNat_lt; omega⟩
    have hge:decide ((c.toNat:Int) ≥ 126)=decide ((c.toNat:Int) > 125):=by rw [decide_eq_decide]; omega
    simp only [rlt3,rdg3,call_some,lett_eq,hexC,hexD,nat_toNat,hge]
    have hi2:=fun acc' (hq:acc'.length≤acc.length+4)=>ih (i+1) n acc' (by omega) (by omega) (by omega)
    have hr:=c.toNat_lt
    rw [chk_in (by simp; omega),chk_in (by simp; omega),chk_pos (hh _ (by omega)),chk_pos (hh _ (by omega))]
    change call (bif _ then _ else bif _ then _ else bif par c then _ else bif ctl c then _ else _) _=_
    cases h:(c.toNat:Int) == 10
    · cases h2:(c.toNat:Int) == 9
      · cases h3:par c
        · cases h4:ctl c
          · simp only [cond_false]
            rw [chk_pos hc,chk_pos (by simp; omega),call_some,hi2 _ (by simp)]
            rw [textBn h h2 h3 h4]
            simp
          · simp only [cond_false,cond_true]
            rw [chk_pos (by simp; omega),chk_pos (by simp; omega),call_some,hi2 _ (by simp)]
            rw [textBc h h2 h3 h4]
            simp [hx]
        · simp only [cond_false,cond_true]
          rw [chk_pos hc,chk_pos (by simp; omega),call_some,hi2 _ (by simp)]
          rw [textBp h h2 h3]
          simp
      · simp only [cond_false,cond_true]
        rw [chk_pos (by simp; omega),call_some,hi2 _ (by simp)]
        rw [textB9 h h2]
        simp
    · simp only [cond_true]
      rw [chk_pos (by simp; omega),call_some,hi2 _ (by simp)]
      rw [textB10 h]
      simp
theorem flat_len {f:UInt8→List UInt8} (h:∀ c,(f c).length≤4):∀ (s:List UInt8),(s.flatMap f).length≤4 * s.length
  | []=>by simp
  | c :: t=>by
    have:=flat_len h t
    have:=h c
    rw [List.flatMap_cons,List.length_append,List.length_cons]; omega
end Go.Vm.ObjG
