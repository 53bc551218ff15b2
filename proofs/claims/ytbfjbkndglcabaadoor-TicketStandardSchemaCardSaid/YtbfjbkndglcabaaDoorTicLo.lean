/-
  TICKETS,PLAIN,part 11: how long what a schema accepts can be; the laws of Check and of Validate.
-/
import Derived.Test.YtbfjbkndglcabaaDoorTicLn
namespace Go.Vm.TicG
theorem wrap_l (a b:Int):IntKind.i64.wrap (IntKind.i64.wrap a+b)=IntKind.i64.wrap (a+b):=by
  unfold IntKind.wrap
  simp only [IntKind.bits,IntKind.signed]
  simp
  omega
theorem wrap_r (a b:Int):IntKind.i64.wrap (a+IntKind.i64.wrap b)=IntKind.i64.wrap (a+b):=by
  rw [Int.add_comm,wrap_l,Int.add_comm]
theorem lw_eq {F:Nat} (hF:4294967300≤F) (hF2:maxLen < F) {f:S_TicketField} (hs:SmF f) (hl:f.f4.length≤16) :
    ∀ (m i n:Nat) (v:Int),i+m=f.f4.length→m < n→∃ r,ticket_longest_L1 F f n v i=some r∧ref3_bound_L3 F f n v i=some r:=by
  intro m
  induction m with
  | zero =>
    intro i n v h hn
    obtain ⟨n,rfl⟩:∃ k,n=k+1:=⟨n - 1,by omega⟩
    obtain rfl:i=f.f4.length:=by omega
    refine ⟨v,?_,?_⟩
    · rw [ticket_longest_L1,dec_end,cond_false]
    · rw [ref3_bound_L3,dec_end,cond_false]
  | succ m ih =>
    intro i n v h hn
    obtain ⟨n,rfl⟩:∃ k,n=k+1:=⟨n - 1,by omega⟩
    have hi:i < f.f4.length:=by omega
    obtain ⟨b,g1,g2⟩:=len_eq hF hF2 (hs.h4 _ (getD_mem [] hi))
    have hw:IntKind.i64.wrap ((i:Int)+1)=((i+1:Nat):Int):=wrap_succ (by omega)
    have e0:f.f4.getD (i:Int).toNat []=f.f4.getD i []:=rfl
    rw [ticket_longest_L1,ref3_bound_L3,dec_lt hi,cond_true,chk_in hi,cond_true,chk_in hi,hw,e0,g1,g2,call_some,call_some]
    exact ih (i+1) n _ (by omega) (by omega)
theorem lk_eq {F:Nat} (hF:4294967300≤F) (hF2:maxLen < F) {f:S_TicketField} (hs:SmF f) (hl:f.f5.length≤64) {P Q:S_TicketField→Option Int} (ih:∀ x∈f.f5,∃ v,P x=some v∧Q x=some v) :
    ∀ (m i n:Nat) (v:Int),i+m=f.f5.length→m < n→∃ r,ticket_longest_L3 F f P n v i=some r∧ref3_bound_L1 F f Q n (IntKind.i64.wrap (v+4)) i=some (IntKind.i64.wrap (r+4)):=by
  intro m
  induction m with
  | zero =>
    intro i n v h hn
    obtain ⟨n,rfl⟩:∃ k,n=k+1:=⟨n - 1,by omega⟩
    obtain rfl:i=f.f5.length:=by omega
    refine ⟨v,?_,?_⟩
    · rw [ticket_longest_L3,dec_end,cond_false]
    · rw [ref3_bound_L1,dec_end,cond_false]
  | succ m ihm =>
    intro i n v h hn
    obtain ⟨n,rfl⟩:∃ k,n=k+1:=⟨n - 1,by omega⟩
    have hi:i < f.f5.length:=by omega
    have hmem:=getD_mem tf0 hi
    obtain ⟨b,g1,g2⟩:=len_eq hF hF2 (hs.h5 _ hmem).h0
    obtain ⟨y,q1,q2⟩:=ih _ hmem
    have hw:IntKind.i64.wrap ((i:Int)+1)=((i+1:Nat):Int):=wrap_succ (by omega)
    have e0:f.f5.getD (i:Int).toNat (S_TicketField.mk [] 0 0 0 [] [] false (S_Object.mk 0 0 [] [] []))=f.f5.getD i tf0:=rfl
    rw [ticket_longest_L3,ref3_bound_L1,dec_lt hi,cond_true,chk_in hi,cond_true,chk_in hi,hw,e0,g1,call_some,q1,call_some,q2,call_some,g2,call_some]
    have hsum:IntKind.i64.wrap (IntKind.i64.wrap (v+4)+IntKind.i64.wrap (IntKind.i64.wrap (2+y)+b))=IntKind.i64.wrap (IntKind.i64.wrap (v+IntKind.i64.wrap (IntKind.i64.wrap (b+y)+2))+4):=by
      rw [wrap_l (2+y) b,wrap_l (v+4),wrap_r (v+4) (2+y+b),wrap_l (b+y) 2,wrap_r v (b+y+2),wrap_l (v+(b+y+2)) 4]
      congr 1
      omega
    rw [hsum]
    exact ihm (i+1) n _ (by omega) (by omega)
theorem longest_eq {F:Nat} (hF:4294967300≤F) (hF2:maxLen < F):∀ (n j:Nat) (f:S_TicketField),FOk j f→SmF f→j≤n→∃ v,ticket_longest_fuel F n f=some v∧ref3_bound_fuel F n f=some v:=by
  intro n
  induction n with
  | zero =>
    intro j f hf _ hj
    obtain rfl:j=0:=by omega
    cases hf
  | succ n ih =>
    intro j f hf hs hj
    have hk:=hf.k
    have hkids:∀ x∈f.f5,∃ v,ticket_longest_fuel F n x=some v∧ref3_bound_fuel F n x=some v:=fun x hx=>ih (j - 1) x (hf.hk x hx) (hs.h5 x hx) (by omega)
    change ∃ v,ticket_longest_body F (ticket_longest_fuel F n) f=some v∧ref3_bound_body F (ref3_bound_fuel F n) f=some v
    generalize ticket_longest_fuel F n=P at hkids
    generalize ref3_bound_fuel F n=Q at hkids
    unfold ticket_longest_body ref3_bound_body
    have hk5:f.f1=0∨f.f1=1∨f.f1=2∨f.f1=3∨f.f1=4:=by omega
    rcases hk5 with h | h | h | h | h
    · rw [h]
      exact ⟨12,rfl,rfl⟩
    · rw [h]
      refine ⟨_,rfl,?_⟩
      rw [Int.add_comm 2]
      rfl
    · rw [h]
      obtain ⟨r,g1,g2⟩:=lw_eq hF hF2 hs hf.words f.f4.length 0 F 0 (by omega) (by have:=hf.words; omega)
      rw [Int.natCast_zero] at g1 g2
      refine ⟨r,?_,?_⟩
      · change call (ticket_longest_L1 F f F 0 0) _=_
        rw [g1,call_some]
      · change call (call (ref3_bound_L3 F f F 0 0) _) _=_
        rw [g2,call_some,call_some]
    · rw [h]
      have h1:=hf.many h
      obtain ⟨y,q1,q2⟩:=hkids _ (getD_mem tf0 (show 0 < f.f5.length by omega))
      have hck:0≤(0:Int)∧(0:Int) < (f.f5.length:Int):=by omega
      refine ⟨IntKind.i64.wrap (2+IntKind.i64.wrap (f.f3 * IntKind.i64.wrap (y+1))),?_,?_⟩
      · change chk (0≤(0:Int)∧(0:Int) < (f.f5.length:Int)) (call (P (f.f5.getD 0 tf0)) _)=_
        rw [chk_pos hck,q1,call_some]
      · change call (chk (0≤(0:Int)∧(0:Int) < (f.f5.length:Int)) (call (Q (f.f5.getD 0 tf0)) _)) _=_
        rw [chk_pos hck,q2,call_some,call_some,Int.add_comm 1 y,Int.add_comm 2]
    · rw [h]
      have h64:=hf.l64
      obtain ⟨r,g1,g2⟩:=lk_eq hF hF2 hs h64 hkids f.f5.length 0 F 0 (by omega) (by omega)
      rw [Int.natCast_zero] at g1 g2
      have h4:IntKind.i64.wrap (0+4)=4:=by decide
      rw [h4] at g2
      refine ⟨IntKind.i64.wrap (r+4),?_,?_⟩
      · change call (ticket_longest_L3 F f P F 0 0) _=_
        rw [g1,call_some]
      · change call (call (ref3_bound_L1 F f Q F 4 0) _) _=_
        rw [g2,call_some,call_some]
theorem check_eq {F:Nat} (hF:4294967300≤F) (hF2:maxLen < F) {s:S_TicketField} (hs:SmF s):∃ e,ticket_Check F s=some e∧ref3_SchemaError F s=some e∧(e=0→FOk 5 s):=by
  have h:=field_eq hF hF2 5 1 F s false 0 (by omega) (by omega) hs (by omega)
  change SameF (ticket_checker_field F s (1:Int) false 0) (ref3_FieldError F s (1:Int) false (0:Int)) _ _ at h
  unfold ticket_Check ref3_SchemaError
  rcases h with ⟨e,k',k'',he,g1,g2⟩ | ⟨k',g1,g2,_,_,g3⟩
  · have hne:(e != 0)=true:=by simpa using he
    rw [g1,g2,call_some,call_some]
    simp only [hne,cond_true]
    exact ⟨e,rfl,rfl,fun h=>absurd h he⟩
  · rw [g1,g2,call_some,call_some]
    simp only [bne_self_eq_false,cond_false]
    by_cases hk:(s.f1 != 4)=true
    · rw [hk]
      exact ⟨14,rfl,rfl,fun h=>by cases h⟩
    · rw [Bool.not_eq_true] at hk
      rw [hk,cond_false,cond_false]
      obtain ⟨v,v1,v2⟩:=longest_eq hF hF2 F 5 s g3 hs (by omega)
      change ticket_longest F s=some v at v1
      change ref3_bound F s=some v at v2
      simp only [v1,v2,call_some]
      cases decide (v > 8192) with
      | true=>exact ⟨2,rfl,rfl,fun h=>by cases h⟩
      | false=>exact ⟨0,rfl,rfl,fun _=>g3⟩
end Go.Vm.TicG
