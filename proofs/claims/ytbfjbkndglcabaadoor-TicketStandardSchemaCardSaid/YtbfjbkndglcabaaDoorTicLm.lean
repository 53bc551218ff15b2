/-
  TICKETS,PLAIN,part 9: the first error of a schema.
-/
import Derived.Test.YtbfjbkndglcabaaDoorTicLl
namespace Go.Vm.TicG
/-- All strings of a schema are as long as strings are,and all lists. -/
inductive SmF:S_TicketField→Prop
  | mk {f:S_TicketField} (h0:f.f0.length≤maxLen) (h4:∀ x∈f.f4,x.length≤maxLen) (h5:∀ x∈f.f5,SmF x) (l5:f.f5.length≤maxLen) (h7:Sm f.f7):SmF f
theorem SmF.h0 {f:S_TicketField} (h:SmF f):f.f0.length≤maxLen:=by cases h; assumption
theorem SmF.h4 {f:S_TicketField} (h:SmF f):∀ x∈f.f4,x.length≤maxLen:=by cases h; assumption
theorem SmF.h5 {f:S_TicketField} (h:SmF f):∀ x∈f.f5,SmF x:=by cases h; assumption
theorem SmF.l5 {f:S_TicketField} (h:SmF f):f.f5.length≤maxLen:=by cases h; assumption
theorem SmF.h7 {f:S_TicketField} (h:SmF f):Sm f.f7:=by cases h; assumption
theorem name_eq {F:Nat} (hF:4294967300≤F) (hF2:maxLen < F) {s:Str} (hs:s.length≤maxLen):∃ b,ticket_name F s=some b∧ref3_ticketName F s=some b:=by
  obtain ⟨⟨t,e⟩,g1,g2,_⟩:=both hF ⟨2,0,s,0,0⟩ hs (by simp only; omega)
  unfold ticket_name ref3_ticketName
  rw [g1,g2]
  exact ⟨_,rfl,rfl⟩
theorem len_eq {F:Nat} (hF:4294967300≤F) (hF2:maxLen < F) {s:Str} (hs:s.length≤maxLen):∃ b,ticket_printed F s=some b∧ref3_bound_c1 F s=some b:=by
  obtain ⟨⟨t,e⟩,g1,g2,_⟩:=both hF ⟨2,0,s,0,0⟩ hs (by simp only; omega)
  unfold ticket_printed ref3_bound_c1
  rw [g1,g2]
  exact ⟨_,rfl,rfl⟩
theorem words_eq {F:Nat} (hF:4294967300≤F) (hF2:maxLen < F) {f:S_TicketField} (hs:SmF f) (hl:f.f4.length≤16) (c:Int) :
    ∀ (m i n:Nat),i+m=f.f4.length→m < n →
      (∃ e:Int,e≠0∧ticket_limits_L1 F f n i=some (.esc e)∧ref3_FieldError_L1 F f c n i=some (.esc (e,IntKind.i64.wrap (c+1))))∨(ticket_limits_L1 F f n i=some (.go ())∧ref3_FieldError_L1 F f c n i=some (.go ())):=by
  intro m
  induction m with
  | zero =>
    intro i n h hn
    obtain ⟨n,rfl⟩:∃ k,n=k+1:=⟨n - 1,by omega⟩
    obtain rfl:i=f.f4.length:=by omega
    refine .inr ⟨?_,?_⟩
    · rw [ticket_limits_L1,dec_end,cond_false]
    · rw [ref3_FieldError_L1,dec_end,cond_false]
  | succ m ih =>
    intro i n h hn
    obtain ⟨n,rfl⟩:∃ k,n=k+1:=⟨n - 1,by omega⟩
    have hi:i < f.f4.length:=by omega
    obtain ⟨b,g1,g2⟩:=name_eq hF hF2 (hs.h4 _ (getD_mem [] hi))
    have hck:0≤(0:Int)∧(0:Int)≤(i:Int)∧(i:Int)≤(f.f4.length:Int):=by omega
    have hw:IntKind.i64.wrap ((i:Int)+1)=((i+1:Nat):Int):=wrap_succ (by omega)
    have htl:((f.f4.drop (0:Int).toNat).take ((i:Int).toNat - (0:Int).toNat)).length≤16:=by
      rw [List.length_take,List.length_drop]
      omega
    rw [ticket_limits_L1,ref3_FieldError_L1,dec_lt hi,cond_true,chk_in hi,cond_true,chk_in hi,hw]
    have e0:f.f4.getD (i:Int).toNat []=f.f4.getD i []:=rfl
    rw [e0,g1,call_some,g2,call_some]
    cases b with
    | false=>exact .inl ⟨6,by decide,rfl,rfl⟩
    | true =>
      simp only [Bool.not_true,cond_false]
      rw [chk_pos hck,chk_pos hck,contains_eq (by omega) (by omega),has_eq (by omega) (by omega),call_some,call_some]
      cases decide (f.f4.getD i []∈(f.f4.drop (0:Int).toNat).take ((i:Int).toNat - (0:Int).toNat)) with
      | true=>exact .inl ⟨7,by decide,rfl,rfl⟩
      | false=>exact ih (i+1) n (by omega) (by omega)
/-- The reference's way from the limits on. -/
def refLim (F:Nat) (a0:S_TicketField) (c3:Int) (K:Option (Int×Int)):Option (Int×Int) :=
  lett ((bif (bif (!(a0.f1 == (0:Int))) then (!(a0.f1 == (1:Int))) else false) then (!(a0.f1 == (3:Int))) else false)) fun z3 =>
  bif (bif z3 then (bif (a0.f2 != (0:Int)) then true else (a0.f3 != (0:Int))) else false) then
    some ((4:Int),IntKind.i64.wrap (c3+(1:Int)))
  else
    lett ((bif (bif (a0.f1 == (0:Int)) then true else (a0.f1 == (1:Int))) then true else (a0.f1 == (2:Int)))) fun z4 =>
    lett ((bif (bif (!(a0.f1 == (2:Int))) then (decide ((a0.f4.length:Int) > (0:Int))) else false) then true else (bif z4 then (decide ((a0.f5.length:Int) > (0:Int))) else false))) fun z5 =>
    lett ((bif z5 then true else (bif (a0.f1 == (3:Int)) then ((a0.f5.length:Int) != (1:Int)) else false))) fun z6 =>
    bif z6 then
      some ((4:Int),IntKind.i64.wrap (c3+(1:Int)))
    else
      callE (lett ((bif (bif (a0.f1 == (0:Int)) then true else (a0.f1 == (1:Int))) then true else (a0.f1 == (3:Int)))) fun z7 =>
        bif z7 then
          call (bif (a0.f1 == (1:Int)) then some (128:Int) else some (2147483647:Int)) fun v5 =>
          call (bif (a0.f1 == (3:Int)) then some (16:Int) else some v5) fun v6 =>
          lett ((bif (bif (decide (a0.f2 > a0.f3)) then true else (decide (a0.f3 > v6))) then true else (bif (a0.f1 == (0:Int)) then (decide (a0.f2 < (IntKind.i64.wrap (0 - v6)))) else false))) fun z8 =>
          bif (bif z8 then true else (bif (!(a0.f1 == (0:Int))) then (decide (a0.f2 < (0:Int))) else false)) then
            some (Out.esc (σ:=Unit) ((3:Int),IntKind.i64.wrap (c3+(1:Int))))
          else
            some (.go ())
        else
          some (.go ()))
        (fun e=>some e) fun _ =>
      bif (bif (a0.f1 == (2:Int)) then ((a0.f4.length:Int) == (0:Int)) else false) then
        some ((8:Int),IntKind.i64.wrap (c3+(1:Int)))
      else
        bif (decide ((a0.f4.length:Int) > (16:Int))) then
          some ((2:Int),IntKind.i64.wrap (c3+(1:Int)))
        else
          callE (ref3_FieldError_L1 F a0 c3 F (0:Int))
            (fun e=>some e) fun _=>K
theorem lim_eq {F:Nat} (hF:4294967300≤F) (hF2:maxLen < F) {f:S_TicketField} (hs:SmF f) (hk:0≤f.f1∧f.f1≤4) (c:Int) :
    ∃ e,ticket_limits F f=some e∧(e=0→f.f4.length≤16∧(f.f1=3→f.f5.length=1))∧∀ K,refLim F f c K=if e=0 then K else some (e,IntKind.i64.wrap (c+1)):=by
  -- the words
  have tail:∃ e,(bif (bif (f.f1 == (2:Int)) then ((f.f4.length:Int) == (0:Int)) else false) then some (8:Int) else bif (decide ((f.f4.length:Int) > (16:Int))) then some (2:Int) else
        callE (ticket_limits_L1 F f F (0:Int)) (fun e=>some e) fun _=>some (0:Int))=some e∧(e=0→f.f4.length≤16) ∧
      ∀ K,(bif (bif (f.f1 == (2:Int)) then ((f.f4.length:Int) == (0:Int)) else false) then some ((8:Int),IntKind.i64.wrap (c+(1:Int))) else bif (decide ((f.f4.length:Int) > (16:Int))) then some ((2:Int),IntKind.i64.wrap (c+(1:Int))) else
        callE (ref3_FieldError_L1 F f c F (0:Int)) (fun e=>some e) fun _=>K)=if e=0 then K else some (e,IntKind.i64.wrap (c+1)):=by
    cases (bif (f.f1 == (2:Int)) then ((f.f4.length:Int) == (0:Int)) else false) with
    | true=>exact ⟨8,rfl,fun h=>(by cases h),fun K=>rfl⟩
    | false =>
      by_cases hl:(f.f4.length:Int) > 16
      · rw [decide_eq_true hl]
        exact ⟨2,rfl,fun h=>(by cases h),fun K=>rfl⟩
      · rw [decide_eq_false hl]
        simp only [cond_false]
        rcases words_eq hF hF2 hs (by omega) c f.f4.length 0 F (by omega) (by omega) with ⟨e,h0,g1,g2⟩ | ⟨g1,g2⟩
        · rw [Int.natCast_zero] at g1 g2
          rw [g1,g2]
          exact ⟨e,rfl,fun h=>absurd h h0,fun K=>(if_neg h0).symm⟩
        · rw [Int.natCast_zero] at g1 g2
          rw [g1,g2]
          exact ⟨0,rfl,fun _=>by omega,fun K=>rfl⟩
  obtain ⟨et,t1,t2,t3⟩:=tail
  have hk5:f.f1=0∨f.f1=1∨f.f1=2∨f.f1=3∨f.f1=4:=by omega
  unfold ticket_limits refLim
  rcases hk5 with h | h | h | h | h
  all_goals
    rw [h] at t1 t3 ⊢
    simp only [mpGet,Int.reduceBEq,Int.reduceBNe,beq_self_eq_true,bne_self_eq_false,cond_true,cond_false,Option.getD_some,Option.getD_none,Bool.not_true,Bool.not_false,lett_eq,or_cond,and_cond,call_some,callE_go] at t1 t3 ⊢
  · rw [t1]
    simp only [t3]
    generalize (f.f2 != 0 || f.f3 != 0)=a,decide ((f.f4.length:Int) > 0)=w,decide ((f.f5.length:Int) > 0)=q,decide (f.f2 > f.f3)=r1,decide (f.f3 > 2147483647)=r2,decide (f.f2 < IntKind.i64.wrap (0 - 2147483647))=r3
    cases w <;> cases q <;> cases r1 <;> cases r2 <;> cases r3 <;> first | exact ⟨4,rfl,fun h=>absurd h (by decide),fun K=>rfl⟩ | exact ⟨3,rfl,fun h=>absurd h (by decide),fun K=>rfl⟩ | exact ⟨et,rfl,fun h=>⟨t2 h,fun h=>absurd h (by decide)⟩,fun K=>rfl⟩
  · rw [t1]
    simp only [t3]
    generalize (f.f2 != 0 || f.f3 != 0)=a,decide ((f.f4.length:Int) > 0)=w,decide ((f.f5.length:Int) > 0)=q,decide (f.f2 > f.f3)=r1,decide (f.f3 > 128)=r2,decide (f.f2 < 0)=r3
    cases w <;> cases q <;> cases r1 <;> cases r2 <;> cases r3 <;> first | exact ⟨4,rfl,fun h=>absurd h (by decide),fun K=>rfl⟩ | exact ⟨3,rfl,fun h=>absurd h (by decide),fun K=>rfl⟩ | exact ⟨et,rfl,fun h=>⟨t2 h,fun h=>absurd h (by decide)⟩,fun K=>rfl⟩
  · rw [t1]
    simp only [t3]
    have h20:(f.f2 != 0 || f.f3 != 0)=false→decide (f.f2 < 0)=false:=by
      intro h
      simp at h
      rw [decide_eq_false]
      omega
    revert h20
    generalize (f.f2 != 0 || f.f3 != 0)=a,decide ((f.f5.length:Int) > 0)=q,decide (f.f2 < 0)=r3
    intro h20
    cases a <;> cases q <;> cases r3 <;> first | (cases h20 rfl; done) | first | exact ⟨4,rfl,fun h=>absurd h (by decide),fun K=>rfl⟩ | exact ⟨3,rfl,fun h=>absurd h (by decide),fun K=>rfl⟩ | exact ⟨et,rfl,fun h=>⟨t2 h,fun h=>absurd h (by decide)⟩,fun K=>rfl⟩
  · rw [t1]
    simp only [t3]
    have hm:((f.f5.length:Int) != 1)=false→f.f5.length=1:=by
      intro h
      simp at h
      omega
    revert hm
    generalize (f.f2 != 0 || f.f3 != 0)=a,decide ((f.f4.length:Int) > 0)=w,decide (f.f2 > f.f3)=r1,decide (f.f3 > 16)=r2,decide (f.f2 < 0)=r3,((f.f5.length:Int) != 1)=m
    intro hm
    cases w <;> cases m <;> cases r1 <;> cases r2 <;> cases r3 <;> first | exact ⟨4,rfl,fun h=>absurd h (by decide),fun K=>rfl⟩ | exact ⟨3,rfl,fun h=>absurd h (by decide),fun K=>rfl⟩ | exact ⟨et,rfl,fun h=>⟨t2 h,fun _=>hm rfl⟩,fun K=>rfl⟩
  · rw [t1]
    simp only [t3]
    have h20:(f.f2 != 0 || f.f3 != 0)=false→decide (f.f2 < 0)=false:=by
      intro h
      simp at h
      rw [decide_eq_false]
      omega
    revert h20
    generalize (f.f2 != 0 || f.f3 != 0)=a,decide ((f.f4.length:Int) > 0)=w,decide (f.f2 < 0)=r3
    intro h20
    cases a <;> cases w <;> cases r3 <;> first | (cases h20 rfl; done) | first | exact ⟨4,rfl,fun h=>absurd h (by decide),fun K=>rfl⟩ | exact ⟨3,rfl,fun h=>absurd h (by decide),fun K=>rfl⟩ | exact ⟨et,rfl,fun h=>⟨t2 h,fun h=>absurd h (by decide)⟩,fun K=>rfl⟩
end Go.Vm.TicG
