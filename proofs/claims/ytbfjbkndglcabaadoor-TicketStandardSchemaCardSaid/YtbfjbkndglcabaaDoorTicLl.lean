/-
  TICKETS,PLAIN,part 8: the program and the reference refuse the same.
-/
import Derived.Test.YtbfjbkndglcabaaDoorTicLk
namespace Go.Vm.TicG
/-- A schema without an error,as far as it matters here. -/
inductive FOk:Nat→S_TicketField→Prop
  | mk {j:Nat} {f:S_TicketField} (k:0≤f.f1∧f.f1≤4) (inc:Inc (f.f5.map (·.f0))) (many:f.f1=3→f.f5.length=1) (l64:f.f5.length≤64) (words:f.f4.length≤16) (hk:∀ x∈f.f5,FOk j x):FOk (j+1) f
theorem FOk.k {j:Nat} {f:S_TicketField} (h:FOk j f):0≤f.f1∧f.f1≤4:=by cases h; assumption
theorem FOk.inc {j:Nat} {f:S_TicketField} (h:FOk j f):Inc (f.f5.map (·.f0)):=by cases h; assumption
theorem FOk.many {j:Nat} {f:S_TicketField} (h:FOk j f):f.f1=3→f.f5.length=1:=by cases h; assumption
theorem FOk.l64 {j:Nat} {f:S_TicketField} (h:FOk j f):f.f5.length≤64:=by cases h; assumption
theorem FOk.words {j:Nat} {f:S_TicketField} (h:FOk j f):f.f4.length≤16:=by cases h; assumption
theorem FOk.hk {j:Nat} {f:S_TicketField} (h:FOk j f):∀ x∈f.f5,FOk (j - 1) x:=by cases h; assumption
theorem OOk.node {F:Nat} {o:S_Object} (h:OOk F o):NodeOk F o:=by cases h; assumption
theorem OOk.kids {F:Nat} {o:S_Object} (h:OOk F o):∀ x∈o.f4,OOk F x:=by cases h; assumption
theorem inc_of {ks:List Str} (h:∀ i,i+1 < ks.length→Op.bytesLess (ks.getD i []) (ks.getD (i+1) [])=true):Inc ks:=by
  rw [Inc,List.pairwise_iff_getElem]
  intro i j hi hj hij
  have key:∀ d,∀ i,i+d+1 < ks.length→bl (ks.getD i []) (ks.getD (i+d+1) []):=by
    intro d
    induction d with
    | zero=>intro i h'; exact h i (by omega)
    | succ d ih =>
      intro i h'
      exact bL_trans (ih i (by omega)) (h (i+d+1) (by omega))
  have:=key (j - i - 1) i (by omega)
  rw [show i+(j - i - 1)+1=j by omega] at this
  simpa [List.getD_eq_getElem?_getD,hi,hj] using this
section
variable {F:Nat} {f:S_TicketField} {o:S_Object} {p:List Str} {R:S_TicketField→S_Object→List Str→Fnd} {N B:Nat}
/-- The elements of a list. -/
theorem many_eq (hF:4294967300≤F) (h1:f.f5.length=1) (hko:o.f4.length≤256) (hp:p.length≤10000) {P Q:S_TicketField→S_Object→List Str→Option Fnd}
    (hP:∀ i j,i < f.f5.length→j < o.f4.length→∀ s,P (f.f5.getD i tf0) (o.f4.getD j ob0) (p++[s])=some (R (f.f5.getD i tf0) (o.f4.getD j ob0) (p++[s]))∧Q (f.f5.getD i tf0) (o.f4.getD j ob0) (p++[s])=some (R (f.f5.getD i tf0) (o.f4.getD j ob0) (p++[s]))∧(R (f.f5.getD i tf0) (o.f4.getD j ob0) (p++[s])).length≤N * sz (o.f4.getD j ob0)∧∀ x∈R (f.f5.getD i tf0) (o.f4.getD j ob0) (p++[s]),x.f0.length≤B) :
    ∀ (m j n:Nat) (out:Fnd),j+m=o.f4.length→m < n→out.length+N * szs (o.f4.drop j)≤1000000→(∀ x∈out,x.f0.length≤B) →
      ∃ l:Fnd,ticket_findings_L1 F f o p P n out j=some l∧ref3_Refused_L1 F f o p Q n out j=some l∧l.length≤out.length+N * szs (o.f4.drop j)∧∀ x∈l,x.f0.length≤B:=by
  intro m
  induction m with
  | zero =>
    intro j n out h hn _ hB
    obtain ⟨n,rfl⟩:∃ k,n=k+1:=⟨n - 1,by omega⟩
    obtain rfl:j=o.f4.length:=by omega
    refine ⟨out,?_,?_,by omega,hB⟩
    · rw [ticket_findings_L1,dec_end,cond_false]
    · rw [ref3_Refused_L1,dec_end,cond_false]
  | succ m ih =>
    intro j n out h hn hb hB
    obtain ⟨n,rfl⟩:∃ k,n=k+1:=⟨n - 1,by omega⟩
    have hj:j < o.f4.length:=by omega
    have hd:=drop_getD ob0 hj
    rw [hd,szs,Nat.mul_add] at hb
    obtain ⟨q1,q2,q3,q4⟩:=hP 0 j (by omega) hj (Lib.itoa (j:Int))
    have hw:IntKind.i64.wrap ((j:Int)+1)=((j+1:Nat):Int):=wrap_succ (by omega)
    have h00:(0:Int)≤0∧(0:Int) < (f.f5.length:Int):=by omega
    have e0:f.f5.getD (0:Int).toNat (S_TicketField.mk [] 0 0 0 [] [] false (S_Object.mk 0 0 [] [] []))=f.f5.getD 0 tf0:=rfl
    have e1:o.f4.getD (j:Int).toNat (S_Object.mk 0 0 [] [] [])=o.f4.getD j ob0:=rfl
    obtain ⟨l,g1,g2,g3,g4⟩:=ih (j+1) n (out++R (f.f5.getD 0 tf0) (o.f4.getD j ob0) (p++[Lib.itoa (j:Int)])) (by omega) (by omega) (by rw [List.length_append]; omega) (fun x hx=>by
      rcases List.mem_append.1 hx with hx | hx
      · exact hB x hx
      · exact q4 x hx)
    refine ⟨l,?_,?_,?_,g4⟩
    · rw [ticket_findings_L1,dec_lt hj,cond_true,chk_in hj,chk_pos h00,clone_eq (by omega),call_some,chk_pos (by omega),chk_pos (by rw [List.length_singleton]; omega),e0,e1,q1,call_some,chk_pos (by omega),hw]
      exact g1
    · rw [ref3_Refused_L1,dec_lt hj,cond_true,chk_in hj,chk_pos h00,Decimal_eq hF (x:=(j:Int)) ⟨by omega,by omega⟩,call_some,under_eq (by omega) (by omega),call_some,e0,e1,q2,call_some,chk_pos (by omega),hw]
      exact g2
    · rw [hd,szs,Nat.mul_add]
      rw [List.length_append] at g3
      omega
end
theorem fc_eq {F:Nat} {p:List Str} {e:Int} (h:p.length≤100000):ticket_findings_c1 F e p=some ([⟨p,e⟩],p):=by
  unfold ticket_findings_c1
  rw [clone_eq (by omega),call_some]
theorem findings_eq {F:Nat} (hF:4294967300≤F):∀ (n j:Nat) (f:S_TicketField) (o:S_Object) (p:List Str),sz o < n→FOk j f→OOk F o→sz o≤4096→p.length+sz o≤5000 →
    ∃ l:Fnd,ticket_findings_fuel F n f o p=some l∧ref3_Refused_fuel F n f o p=some l∧l.length≤65 * sz o∧∀ x∈l,x.f0.length≤p.length+sz o:=by
  intro n
  induction n with
  | zero=>intro j f o p h; omega
  | succ n ih =>
    intro lev f o p hn hf ho hsz hp
    change ∃ l:Fnd,ticket_findings_body F (ticket_findings_fuel F n) f o p=some l∧ref3_Refused_body F (ref3_Refused_fuel F n) f o p=some l∧l.length≤65 * sz o∧∀ x∈l,x.f0.length≤p.length+sz o
    have hso:=sz_eq o
    have kid:∀ j,j < o.f4.length→sz (o.f4.getD j ob0)≤szs o.f4:=by
      have:∀ (l:List S_Object) (x:S_Object),x∈l→sz x≤szs l:=by
        intro l
        induction l with
        | nil=>intro x hx; cases hx
        | cons y l ih =>
          intro x hx
          rw [szs]
          rcases List.mem_cons.1 hx with rfl | hx
          · omega
          · have:=ih x hx; omega
      exact fun j hj=>this _ _ (getD_mem ob0 hj)
    have hR:∀ i j,i < f.f5.length→j < o.f4.length→∀ s,ticket_findings_fuel F n (f.f5.getD i tf0) (o.f4.getD j ob0) (p++[s])=some ((ticket_findings_fuel F n (f.f5.getD i tf0) (o.f4.getD j ob0) (p++[s])).getD []) ∧
        ref3_Refused_fuel F n (f.f5.getD i tf0) (o.f4.getD j ob0) (p++[s])=some ((ticket_findings_fuel F n (f.f5.getD i tf0) (o.f4.getD j ob0) (p++[s])).getD [])∧((ticket_findings_fuel F n (f.f5.getD i tf0) (o.f4.getD j ob0) (p++[s])).getD []).length≤65 * sz (o.f4.getD j ob0)∧∀ x∈(ticket_findings_fuel F n (f.f5.getD i tf0) (o.f4.getD j ob0) (p++[s])).getD [],x.f0.length≤p.length+sz o:=by
      intro i j hi hj s
      have:=kid j hj
      obtain ⟨l,g1,g2,g3,g4⟩:=ih _ (f.f5.getD i tf0) (o.f4.getD j ob0) (p++[s]) (by omega) (hf.hk _ (getD_mem tf0 hi)) (ho.kids _ (getD_mem ob0 hj)) (by omega) (by rw [List.length_append,List.length_singleton]; omega)
      rw [g1,g2]
      refine ⟨rfl,rfl,g3,fun x hx=>?_⟩
      have:=g4 x hx
      rw [List.length_append,List.length_singleton] at this
      omega
    clear ih
    generalize hPe:ticket_findings_fuel F n=P at hR
    generalize hQe:ref3_Refused_fuel F n=Q at hR
    have hno:=ho.node
    have hmany:=hno.many
    have hk:=hf.k
    have hone:∀ e:Int,(call (ticket_findings_c1 F e p) fun y=>some y.1)=some [⟨p,e⟩]∧(call (ref3_Refused_c1 F e p) fun y=>some y.1)=some [⟨p,e⟩]∧[S_TicketFinding.mk p e].length≤65 * sz o∧∀ x∈[S_TicketFinding.mk p e],x.f0.length≤p.length+sz o:=by
      intro e
      rw [fc_eq (by omega)]
      exact ⟨rfl,rfl,by rw [List.length_singleton]; omega,fun x hx=>by rw [List.mem_singleton.1 hx]; simp only; omega⟩
    have h14:=hone 14
    have h3:=hone 3
    have h20:=hone 20
    have hk5:f.f1=0∨f.f1=1∨f.f1=2∨f.f1=3∨f.f1=4:=by omega
    unfold ticket_findings_body ref3_Refused_body
    have hidx:0≤f.f1∧f.f1 < (([(2:Int),(4:Int),(3:Int),(6:Int),(7:Int)]).length:Int):=by simp only [List.length_cons,List.length_nil]; omega
    simp only [lett_eq,or_cond,and_cond,chk_pos hidx]
    by_cases hkind:(o.f0 != ([(2:Int),(4:Int),(3:Int),(6:Int),(7:Int)]).getD f.f1.toNat 0)=true
    · rw [hkind,cond_true,cond_true]
      exact ⟨_,h14⟩
    rw [Bool.not_eq_true] at hkind
    rw [hkind,cond_false,cond_false]
    have nil:∃ l:Fnd,(some []:Option Fnd)=some l∧(some []:Option Fnd)=some l∧l.length≤65 * sz o∧∀ x∈l,x.f0.length≤p.length+sz o:=⟨[],rfl,rfl,by simp,fun x hx=>by cases hx⟩
    rcases hk5 with h | h | h | h | h
    · -- an integer
      rw [h]
      simp only [mpGet,Int.reduceBEq,beq_self_eq_true,cond_true,cond_false,Option.getD_some,Option.isSome_some,Bool.true_and,Bool.false_and,call_some]
      cases (decide (o.f1 < f.f2) || decide (o.f1 > f.f3)) with
      | true=>exact ⟨_,h3⟩
      | false=>exact nil
    · -- a text
      rw [h]
      simp only [mpGet,Int.reduceBEq,beq_self_eq_true,cond_true,cond_false,Option.getD_some,Option.isSome_some,Bool.true_and,Bool.false_and,call_some]
      cases (decide ((o.f2.length:Int) < f.f2) || decide ((o.f2.length:Int) > f.f3)) with
      | true=>exact ⟨_,h3⟩
      | false=>exact nil
    · -- a word
      have hw:=hf.words
      rw [h]
      simp only [mpGet,Int.reduceBEq,beq_self_eq_true,cond_true,cond_false,Option.isSome_none,Bool.true_and,Bool.false_and,call_some,Bool.and_true]
      rw [contains_eq (by omega) (by omega),has_eq (by omega) (by omega),call_some,call_some]
      cases decide (o.f2∈f.f4) with
      | true=>exact nil
      | false=>exact ⟨_,h20⟩
    · -- a list
      rw [h]
      simp only [mpGet,Int.reduceBEq,beq_self_eq_true,cond_true,cond_false,Option.getD_some,Option.isSome_some,Bool.true_and,Bool.false_and,call_some]
      cases (decide ((o.f4.length:Int) < f.f2) || decide ((o.f4.length:Int) > f.f3)) with
      | true=>exact ⟨_,h3⟩
      | false =>
        obtain ⟨l,g1,g2,g3,g4⟩:=many_eq (R:=fun a b c=>(P a b c).getD []) (N:=65) (B:=p.length+sz o) hF (hf.many h) hmany (by omega) hR o.f4.length 0 F [] (by omega) (by omega) (by rw [List.drop_zero,List.length_nil]; omega) (fun x hx=>by cases hx)
        rw [Int.natCast_zero] at g1 g2
        rw [List.drop_zero,List.length_nil] at g3
        refine ⟨l,?_,?_,by omega,g4⟩
        · simp only [cond_false,g1,call_some]
          rfl
        · simp only [cond_false,g2,call_some]
          rfl
    · -- a record
      have h7:o.f0=7:=by
        rw [h] at hkind
        simpa using hkind
      have hko:=hno.ks h7
      have hks:=inc_of hno.sorted
      have hinc:=hf.inc
      have hl64:=hf.l64
      have hol:=out_len (f:=f) (o:=o) (p:=p) (R:=fun a b c=>(P a b c).getD []) (N:=65) (fun i j hi hj s=>(hR i j hi hj s).2.2.1) (by omega) hko
      obtain ⟨M,hM⟩:∃ M,M=f.f5.length+o.f3.length+1:=⟨_,rfl⟩
      have hol0:=hol M 0 0 (by omega) (by omega)
      rw [List.drop_zero] at hol0
      have g1:=rec_eq (F:=F) (f:=f) (o:=o) (p:=p) (R:=fun a b c=>(P a b c).getD []) (by omega) (by omega) (by omega) hko (by omega) (fun i j hi hj s=>(hR i j hi hj s).1) M 0 0 F [] (by omega) (by omega) (by omega) (by omega) (by rw [List.length_nil]; omega)
      have hevs:=mrg_ok hinc hks M 0 0 (by omega) (by omega) (by omega) (fun x y hx=>by omega) (fun x y hx=>by omega)
      have hnames:=names_eq hinc hks (n:=M) (by omega)
      have hevl:(mrg f.f5 o.f3 M 0 0).length≤10000:=by
        have h1:=congrArg List.length hnames
        rw [List.length_map] at h1
        rw [← h1]
        have hil:∀ (xs P:List Str),(isort P xs).length=P.length+xs.length:=by
          intro xs
          induction xs with
          | nil=>intro P; simp [isort]
          | cons x xs ih=>intro P; rw [isort,ih,insr_len,List.length_reverse,List.length_cons]; omega
        rw [hil]
        have:=(dd_ok o.f3 (f.f5.map (·.f0)) (inc_nodup hinc)).2.2
        rw [List.length_map] at this
        simp only [List.length_nil]
        omega
      have r3:=R3_eq (F:=F) f (by omega) f.f5.length 0 F [] (by omega) (by omega) (by simp) (by simp; omega)
      rw [List.drop_zero,List.nil_append,Int.natCast_zero] at r3
      have r5:=R5_eq (F:=F) o (by omega) (by omega) o.f3.length 0 F (f.f5.map (·.f0)) (by omega) (by omega) (by rw [List.length_map]; omega)
      rw [List.drop_zero,Int.natCast_zero] at r5
      have hdl:=(dd_ok o.f3 (f.f5.map (·.f0)) (inc_nodup hinc)).2.2
      rw [List.length_map] at hdl
      have r7:=R7_eq (F:=F) (v10:=dd (f.f5.map (·.f0)) o.f3) (by omega) (by omega) (dd (f.f5.map (·.f0)) o.f3).length 0 F [] rfl (by omega) (by omega)
      rw [List.drop_zero,List.nil_append,Int.natCast_zero,hnames] at r7
      have g2:=R11_eq (F:=F) (f:=f) (o:=o) (p:=p) (R:=fun a b c=>(P a b c).getD []) (by omega) (by omega) hinc (by omega) hks hko (by omega) (fun i j hi hj s=>(hR i j hi hj s).2.1) hevs.2.1 hevl rfl (mrg f.f5 o.f3 M 0 0).length 0 F [] (by omega) (by omega) (by rw [List.drop_zero,List.length_nil]; omega)
      rw [List.drop_zero,List.nil_append,Int.natCast_zero] at g2
      rw [List.nil_append,Int.natCast_zero] at g1
      refine ⟨(mrg f.f5 o.f3 M 0 0).flatMap (Ev.out f o p fun a b c=>(P a b c).getD []),?_,?_,?_,fun x hx=>?_⟩
      rotate_left
      · rw [h]
        simp only [Int.reduceBEq,Int.reduceBNe,beq_self_eq_true,bne_self_eq_false,cond_true,cond_false,Bool.false_and,call_some]
        rw [r3,call_some,r5,call_some,r7,call_some,g2,call_some] <;> rfl
      · omega
      · obtain ⟨e,he,hx⟩:=List.mem_flatMap.1 hx
        have hok:=hevs.2.1 e he
        cases e with
        | miss i =>
          cases hb:(f.f5.getD i tf0).f6 with
          | true=>rw [out_t hb] at hx; cases hx
          | false =>
            rw [out_f hb] at hx
            rw [List.mem_singleton.1 hx]
            simp only [List.length_append,List.length_singleton]
            omega
        | extra j =>
          have hx:x∈[S_TicketFinding.mk (p++[o.f3.getD j []]) 6]:=hx
          rw [List.mem_singleton.1 hx]
          simp only [List.length_append,List.length_singleton]
          omega
        | both i j=>exact (hR i j hok.2.2.1 (by have:=hok.2.2.2.1; omega) _).2.2.2 x hx
      · rw [h]
        simp only [mpGet,Int.reduceBEq,beq_self_eq_true,cond_true,cond_false,Option.isSome_none,Bool.false_and,call_some]
        unfold ticket_record_v1
        rw [g1,call_some,call_some] <;> rfl
end Go.Vm.TicG
