/-
  TICKETS,PLAIN,part 7: what a field refuses of an object.
-/
import Derived.Test.YtbfjbkndglcabaaDoorTicLj
namespace Go.Vm.TicG
abbrev Fnd:=List S_TicketFinding
/-- What an event adds. -/
def Ev.out (f:S_TicketField) (o:S_Object) (p:List Str) (R:S_TicketField→S_Object→List Str→Fnd):Ev→Fnd
  | .miss i=>if (f.f5.getD i tf0).f6 then [] else [⟨p++[(f.f5.getD i tf0).f0],8⟩]
  | .extra j=>[⟨p++[o.f3.getD j []],6⟩]
  | .both i j=>R (f.f5.getD i tf0) (o.f4.getD j ob0) (p++[o.f3.getD j []])
theorem recc_eq {F:Nat} {p:List Str} {s:Str} (h:p.length≤100000):ticket_record_c1 F s p=some (p++[s],p):=by
  unfold ticket_record_c1
  rw [clone_eq (by omega),call_some,chk_pos (by rw [List.length_singleton]; omega)]
section
variable {F:Nat} {f:S_TicketField} {o:S_Object} {p:List Str} {R:S_TicketField→S_Object→List Str→Fnd}
theorem out_t {i:Nat} (h:(f.f5.getD i tf0).f6=true):Ev.out f o p R (.miss i)=[]:=if_pos h
theorem out_f {i:Nat} (h:(f.f5.getD i tf0).f6=false):Ev.out f o p R (.miss i)=[⟨p++[(f.f5.getD i tf0).f0],8⟩]:=if_neg (by rw [h]; decide)
theorem rec_eq (hF:200000≤F) (hK:f.f5.length≤1000) (hk:o.f3.length≤1000) (hko:o.f3.length=o.f4.length) (hp:p.length≤10000) {P:S_TicketField→S_Object→List Str→Option Fnd}
    (hP:∀ i j,i < f.f5.length→j < o.f4.length→∀ s,P (f.f5.getD i tf0) (o.f4.getD j ob0) (p++[s])=some (R (f.f5.getD i tf0) (o.f4.getD j ob0) (p++[s]))) :
    ∀ (m i j n:Nat) (out:Fnd),i≤f.f5.length→j≤o.f3.length→f.f5.length - i+(o.f3.length - j) < m→m≤n→out.length+((mrg f.f5 o.f3 m i j).flatMap (Ev.out f o p R)).length≤1000000 →
      ticket_record_v1_L0 F f o P n p out i j=some (out++(mrg f.f5 o.f3 m i j).flatMap (Ev.out f o p R)):=by
  intro m
  induction m with
  | zero=>intro i j n out _ _ h; omega
  | succ m ih =>
    intro i j n out hi hj hm hn ho
    obtain ⟨n,rfl⟩:∃ k,n=k+1:=⟨n - 1,by omega⟩
    have hwi:IntKind.i64.wrap ((i:Int)+1)=((i+1:Nat):Int):=wrap_succ (by omega)
    have hwj:IntKind.i64.wrap ((j:Int)+1)=((j+1:Nat):Int):=wrap_succ (by omega)
    rw [ticket_record_v1_L0]
    simp only [or_cond,and_cond,lett_eq,Int.toNat_natCast,hwi,hwj]
    have e0:∀ x,f.f5.getD x (S_TicketField.mk [] 0 0 0 [] [] false (S_Object.mk 0 0 [] [] []))=f.f5.getD x tf0:=fun _=>rfl
    have e1:∀ x,o.f4.getD x (S_Object.mk 0 0 [] [] [])=o.f4.getD x ob0:=fun _=>rfl
    simp only [e0,e1]
    unfold mrg at ho ⊢
    by_cases h0:i < f.f5.length∨j < o.f3.length
    case neg =>
      have hc:(decide ((i:Int) < (f.f5.length:Int)) || decide ((j:Int) < (o.f3.length:Int)))=false:=by
        rw [Bool.or_eq_false_iff,decide_eq_false_iff_not,decide_eq_false_iff_not]
        omega
      rw [if_neg h0,hc,cond_false]
      simp
    rw [if_pos h0] at ho ⊢
    have hc:(decide ((i:Int) < (f.f5.length:Int)) || decide ((j:Int) < (o.f3.length:Int)))=true:=by
      rw [Bool.or_eq_true,decide_eq_true_eq,decide_eq_true_eq]
      omega
    rw [hc,cond_true]
    rw [chk_pos (fun h=>by simp at h; omega),chk_pos (fun h=>by simp at h; omega)]
    have hc2:((j:Int) == (o.f3.length:Int) || decide ((i:Int) < (f.f5.length:Int)) && Op.bytesLess (f.f5.getD i tf0).f0 (o.f3.getD j []))=decide (j=o.f3.length∨(i < f.f5.length∧bl (f.f5.getD i tf0).f0 (o.f3.getD j []))):=by
      rw [Bool.eq_iff_iff]
      simp only [Bool.or_eq_true,Bool.and_eq_true,beq_iff_eq,decide_eq_true_eq,bl,Int.ofNat_inj,Int.ofNat_lt]
    rw [hc2]
    by_cases h1:j=o.f3.length∨(i < f.f5.length∧bl (f.f5.getD i tf0).f0 (o.f3.getD j []))
    · rw [if_pos h1] at ho ⊢
      rw [decide_eq_true h1,cond_true]
      have hiK:i < f.f5.length:=by omega
      rw [List.flatMap_cons] at ho ⊢
      rw [List.length_append] at ho
      have hin:(chk (0≤(i:Int)∧(i:Int) < (f.f5.length:Int)) (bif !(f.f5.getD i tf0).f6 then
          chk (0≤(i:Int)∧(i:Int) < (f.f5.length:Int)) (call (ticket_record_c1 F (f.f5.getD i tf0).f0 p) fun y1=>chk (out.length+[S_TicketFinding.mk y1.1 8].length≤4294967296) (some (y1.2,out++[S_TicketFinding.mk y1.1 8])))
          else some (p,out)))=some (p,out++Ev.out f o p R (.miss i)):=by
        rw [chk_in hiK]
        cases hb:(f.f5.getD i tf0).f6 with
        | true=>rw [out_t hb,List.append_nil]; rfl
        | false =>
          simp only [Bool.not_false,cond_true]
          rw [chk_in hiK,recc_eq (by omega),call_some,chk_pos (by rw [List.length_singleton]; omega),out_f hb]
      rw [hin,call_some]
      rw [ih (i+1) j n (out++Ev.out f o p R (.miss i)) (by omega) hj (by omega) (by omega) (by rw [List.length_append]; omega),List.append_assoc]
    rw [if_neg h1] at ho ⊢
    rw [decide_eq_false h1,cond_false]
    have hjk:j < o.f3.length:=by omega
    rw [chk_pos (fun h=>by omega),chk_pos (fun h=>by simp at h; omega)]
    have hc3:((i:Int) == (f.f5.length:Int) || Op.bytesLess (o.f3.getD j []) (f.f5.getD i tf0).f0)=decide (i=f.f5.length∨bl (o.f3.getD j []) (f.f5.getD i tf0).f0):=by
      rw [Bool.eq_iff_iff]
      simp only [Bool.or_eq_true,beq_iff_eq,decide_eq_true_eq,bl,Int.ofNat_inj]
    rw [hc3]
    by_cases h2:i=f.f5.length∨bl (o.f3.getD j []) (f.f5.getD i tf0).f0
    · rw [if_pos h2] at ho ⊢
      rw [List.flatMap_cons] at ho ⊢
      rw [List.length_append] at ho
      rw [decide_eq_true h2,cond_true,chk_in hjk,recc_eq (by omega),call_some,chk_pos (by rw [List.length_singleton]; omega)]
      have he:[S_TicketFinding.mk (p++[o.f3.getD j []]) 6]=Ev.out f o p R (.extra j):=rfl
      rw [he,ih i (j+1) n (out++Ev.out f o p R (.extra j)) hi (by omega) (by omega) (by omega) (by rw [List.length_append]; omega),List.append_assoc]
    · rw [if_neg h2] at ho ⊢
      rw [List.flatMap_cons] at ho ⊢
      rw [List.length_append] at ho
      have hiK:i < f.f5.length:=by omega
      have hj4:j < o.f4.length:=by omega
      rw [decide_eq_false h2,cond_false,chk_in hiK,chk_in hj4,chk_in hjk,recc_eq (by omega),call_some,hP i j hiK hj4,call_some]
      have he:R (f.f5.getD i tf0) (o.f4.getD j ob0) (p++[o.f3.getD j []])=Ev.out f o p R (.both i j):=rfl
      rw [he,chk_pos (by omega),ih (i+1) (j+1) n (out++Ev.out f o p R (.both i j)) (by omega) (by omega) (by omega) (by omega) (by rw [List.length_append]; omega),List.append_assoc]
theorem R11_eq (hF:200000≤F) (hK:f.f5.length≤1000) (hinc:Inc (f.f5.map (·.f0))) (hk:o.f3.length≤1000) (hks:Inc o.f3) (hko:o.f3.length=o.f4.length) (hp:p.length≤10000) {P:S_TicketField→S_Object→List Str→Option Fnd}
    (hP:∀ i j,i < f.f5.length→j < o.f4.length→∀ s,P (f.f5.getD i tf0) (o.f4.getD j ob0) (p++[s])=some (R (f.f5.getD i tf0) (o.f4.getD j ob0) (p++[s])))
    {evs:List Ev} (hev:∀ e∈evs,EvOk f.f5 o.f3 0 0 e) (hel:evs.length≤10000) {v14:List Str} (hv:v14=evs.map (Ev.name f.f5 o.f3)) :
    ∀ (m t n:Nat) (out:Fnd),t+m=evs.length→m < n→out.length+((evs.drop t).flatMap (Ev.out f o p R)).length≤1000000→ref3_Refused_L11 F f o p P v14 n out t=some (out++(evs.drop t).flatMap (Ev.out f o p R)):=by
  have hvl:v14.length=evs.length:=by rw [hv,List.length_map]
  have dK:∀ i j,i < f.f5.length→j < f.f5.length→j≠i→(f.f5.getD j tf0).f0≠(f.f5.getD i tf0).f0:=by
    intro i j hi hj hne e
    rcases Nat.lt_or_gt_of_ne hne with h | h
    · have:=incK hinc h hi
      rw [e] at this
      exact bl_irr this
    · have:=incK hinc h hj
      rw [e] at this
      exact bl_irr this
  have dS:∀ i j,i < o.f3.length→j < o.f3.length→j≠i→o.f3.getD j []≠o.f3.getD i []:=by
    intro i j hi hj hne e
    rcases Nat.lt_or_gt_of_ne hne with h | h
    · have:=incS hks h hi
      rw [e] at this
      exact bl_irr this
    · have:=incS hks h hj
      rw [e] at this
      exact bl_irr this
  intro m
  induction m with
  | zero =>
    intro t n out h1 hn _
    obtain ⟨n,rfl⟩:∃ k,n=k+1:=⟨n - 1,by omega⟩
    obtain rfl:t=evs.length:=by omega
    rw [ref3_Refused_L11,hvl,dec_end,cond_false,List.drop_length]
    simp
  | succ m ih =>
    intro t n out h1 hn ho
    obtain ⟨n,rfl⟩:∃ k,n=k+1:=⟨n - 1,by omega⟩
    have ht:t < evs.length:=by omega
    have htv:t < v14.length:=by omega
    have hd:=drop_getD (Ev.miss 0) ht
    have hem:=hev _ (getD_mem (Ev.miss 0) ht)
    have hs:v14.getD (t:Int).toNat []=(evs.getD t (.miss 0)).name f.f5 o.f3:=by
      rw [hv]
      simp [List.getD_eq_getElem?_getD,ht]
    rw [hd] at ho ⊢
    rw [List.flatMap_cons] at ho ⊢
    rw [List.length_append] at ho
    have hw:IntKind.i64.wrap ((t:Int)+1)=((t+1:Nat):Int):=wrap_succ (by omega)
    rw [ref3_Refused_L11,dec_lt htv,cond_true,chk_in htv,hw]
    have e0:∀ x,f.f5.getD x (S_TicketField.mk [] 0 0 0 [] [] false (S_Object.mk 0 0 [] [] []))=f.f5.getD x tf0:=fun _=>rfl
    have e1:∀ x,o.f4.getD x (S_Object.mk 0 0 [] [] [])=o.f4.getD x ob0:=fun _=>rfl
    simp only [e0,e1]
    generalize hee:evs.getD t (.miss 0)=e at *
    have r13:=R13_eq (F:=F) f hK v14 (t:Int) hs f.f5.length 0 F (-1:Int) (by omega) (by omega)
    have r15:=R15_eq (F:=F) o hk v14 (t:Int) hs o.f3.length 0 F (-1:Int) (by omega) (by omega)
    rw [Int.natCast_zero] at r13 r15
    have fin:∀ add:Fnd,add=e.out f o p R→ref3_Refused_L11 F f o p P v14 n (out++add) ((t+1:Nat):Int)=some (out++(e.out f o p R++(evs.drop (t+1)).flatMap (Ev.out f o p R))):=by
      intro add ha
      rw [ih (t+1) n (out++add) (by omega) (by omega) (by rw [List.length_append,ha]; omega),ha,List.append_assoc]
    cases e with
    | miss i =>
      obtain ⟨_,hi,hno⟩:=hem
      have g1:=r13.2 i (Nat.zero_le _) hi rfl fun j hj hne=>dK i j hi hj hne
      have g2:=r15.1 fun j _ hj=>hno j hj
      rw [g1,call_some,g2,call_some,decide_eq_false (show ¬ (i:Int) < 0 by omega),cond_false,decide_eq_false (show ¬ (-1:Int) ≥ 0 by omega),cond_false,chk_in hi]
      simp only [Int.toNat_natCast]
      cases hb:(f.f5.getD i tf0).f6 with
      | true =>
        simp only [Bool.not_true,cond_false,call_some]
        have:=fin [] (out_t hb).symm
        rwa [List.append_nil] at this
      | false =>
        simp only [Bool.not_false,cond_true]
        rw [show v14.getD t []=_ from hs,under_eq (by omega) hF,call_some,chk_pos (by rw [List.length_singleton]; omega),call_some]
        exact fin _ (out_f hb).symm
    | extra j =>
      obtain ⟨_,hj,hno⟩:=hem
      have g1:=r13.1 fun i _ hi=>hno i hi
      have g2:=r15.2 j (Nat.zero_le _) hj rfl fun i hi hne=>dS j i hj hi hne
      rw [g1,call_some,g2,call_some,decide_eq_true (show (-1:Int) < 0 by omega),cond_true,hs,under_eq (by omega) hF,call_some,chk_pos (by rw [List.length_singleton]; omega),call_some]
      exact fin _ rfl
    | both i j =>
      obtain ⟨_,_,hi,hj,hij⟩:=hem
      have hj4:j < o.f4.length:=by omega
      have g1:=r13.2 i (Nat.zero_le _) hi rfl fun x hx hne=>dK i x hi hx hne
      have g2:=r15.2 j (Nat.zero_le _) hj hij fun x hx hne=>by
        show o.f3.getD x []≠(f.f5.getD i tf0).f0
        rw [← hij]
        exact dS j x hj hx hne
      rw [g1,call_some,g2,call_some,decide_eq_false (show ¬ (i:Int) < 0 by omega),cond_false,decide_eq_true (show (j:Int) ≥ 0 by omega),cond_true,chk_in hi,chk_in hj4,hs,under_eq (by omega) hF,call_some]
      have hname:Ev.name f.f5 o.f3 (.both i j)=o.f3.getD j []:=hij.symm
      simp only [Int.toNat_natCast]
      rw [hP i j hi hj4,call_some,hname]
      have hlen:(R (f.f5.getD i tf0) (o.f4.getD j ob0) (p++[o.f3.getD j []])).length≤1000000:=by
        have:(Ev.out f o p R (.both i j)).length≤1000000:=by omega
        exact this
      rw [chk_pos (by omega),call_some]
      exact fin _ rfl
/-- How many findings there can be. -/
theorem out_len {N:Nat} (hR:∀ i j,i < f.f5.length→j < o.f4.length→∀ s,(R (f.f5.getD i tf0) (o.f4.getD j ob0) (p++[s])).length≤N * sz (o.f4.getD j ob0)) (hN:1≤N) (hko:o.f3.length=o.f4.length) :
    ∀ (m i j:Nat),i≤f.f5.length→j≤o.f3.length→((mrg f.f5 o.f3 m i j).flatMap (Ev.out f o p R)).length≤(f.f5.length - i)+N * szs (o.f4.drop j):=by
  have sz1:∀ x,1≤sz x:=fun x=>by rw [sz_eq]; omega
  intro m
  induction m with
  | zero=>intro i j _ _; simp [mrg]
  | succ m ih =>
    intro i j hi hj
    unfold mrg
    split
    case isFalse=>simp
    rename_i h0
    split
    · rename_i h1
      have hiK:i < f.f5.length:=by omega
      have:=ih (i+1) j (by omega) hj
      rw [List.flatMap_cons,List.length_append]
      have hl:(Ev.out f o p R (.miss i)).length≤1:=by
        cases hb:(f.f5.getD i tf0).f6 with
        | true=>rw [out_t hb]; exact Nat.zero_le _
        | false=>rw [out_f hb]; exact Nat.le_refl _
      omega
    rename_i h1
    have hjk:j < o.f4.length:=by omega
    have hd:=drop_getD ob0 hjk
    split
    · have:=ih i (j+1) hi (by omega)
      rw [List.flatMap_cons,List.length_append,hd,szs,Nat.mul_add]
      have hl:(Ev.out f o p R (.extra j)).length=1:=rfl
      have:=Nat.mul_le_mul hN (sz1 (o.f4.getD j ob0))
      omega
    · rename_i h2
      have hiK:i < f.f5.length:=by omega
      have:=ih (i+1) (j+1) (by omega) (by omega)
      rw [List.flatMap_cons,List.length_append,hd,szs,Nat.mul_add]
      have hl:(Ev.out f o p R (.both i j)).length≤N * sz (o.f4.getD j ob0):=hR i j hiK hjk _
      omega
end
end Go.Vm.TicG
