/-
  TICKETS,PLAIN,part 15: the law of the standard schema,joined.
-/
import Derived.Test.YtbfjbkndglcabaaDoorTicLr
namespace Go.Vm.TicG
theorem range_map {β:Type} (f:Str→β) (ks:List Str):((List.range' 0 ks.length).map fun j=>f (ks.getD j []))=ks.map f:=by
  apply List.ext_getElem
  · simp
  · intro i h1 h2
    have hi:i < ks.length:=by simpa using h2
    simp [List.getD_eq_getElem?_getD,List.getElem?_eq_getElem hi]
theorem count_ite {ks:List Str} (h:Inc ks) (a:Str):ks.count a=if a∈ks then 1 else 0:=(inc_nodup h).count
theorem mem_getD {ks:List Str} {a:Str}:a∈ks↔∃ j,j < ks.length∧ks.getD j []=a:=by
  rw [List.mem_iff_getElem]
  constructor
  · rintro ⟨i,hi,rfl⟩
    exact ⟨i,hi,by simp [List.getD_eq_getElem?_getD,List.getElem?_eq_getElem hi]⟩
  · rintro ⟨i,hi,h⟩
    exact ⟨i,hi,by simpa [List.getD_eq_getElem?_getD,List.getElem?_eq_getElem hi] using h⟩
theorem std_rec {F:Nat} (hF:4294967300≤F) {o:S_Object} (hf:FOk 5 std) (ho:OOk F o) (hsz:sz o≤4096) (h7:o.f0=7) {l:Fnd} (hl:ticket_findings F std o []=some l) :
    (l=[]↔((List.range' 0 o.f3.length).all (fun j=>okV (o.f3.getD j []) (o.f4.getD j ob0))=true∧((List.range' 0 o.f3.length).map fun j=>req (o.f3.getD j [])).sum=4)):=by
  have hno:=ho.node
  have hmany:=hno.many
  have hko:=hno.ks h7
  have hks:=inc_of hno.sorted
  have hinc:=hf.inc
  have hso:=sz_eq o
  have kid:∀ j,j < o.f4.length→sz (o.f4.getD j ob0)≤szs o.f4:=by
    have:∀ (l:List S_Object) (x:S_Object),x∈l→sz x≤szs l:=by
      intro l
      induction l with
      | nil=>intro x hx; cases hx
      | cons y l ih =>
        intro x hx
        rw [szs]
        rcases List.mem_cons.1 hx with rfl | hx
        · omega
        · have:=ih x hx; omega
    exact fun j hj=>this _ _ (getD_mem ob0 hj)
  obtain ⟨n,hn⟩:∃ n,F=n+2:=⟨F - 2,by omega⟩
  have hun:∀ m,m=n+2→ticket_findings_fuel F m std o []=ticket_findings_body F (ticket_findings_fuel F (n+1)) std o []:=by rintro _ rfl; rfl
  have h7l:std.f5.length=7:=rfl
  have hl:ticket_findings_body F (ticket_findings_fuel F (n+1)) std o []=some l:=(hun F hn).symm.trans hl
  have hR:∀ i j,i < std.f5.length→j < o.f4.length→∀ s,∃ l:Fnd,ticket_findings_fuel F (n+1) (std.f5.getD i tf0) (o.f4.getD j ob0) ([]++[s])=some l∧l.length≤65 * sz (o.f4.getD j ob0)∧(l=[]↔okV (std.f5.getD i tf0).f0 (o.f4.getD j ob0)=true):=by
    intro i j hi hj s
    have hs:=kid j hj
    obtain ⟨l,g1,g2⟩:=kid_eq (F:=F) (n:=n) (v:=o.f4.getD j ob0) (p:=[]++[s]) (by omega) (by simp) i (by omega)
    obtain ⟨l',g3,_,g4,_⟩:=findings_eq hF (n+1) _ (std.f5.getD i tf0) (o.f4.getD j ob0) ([]++[s]) (by omega) (hf.hk _ (getD_mem tf0 hi)) (ho.kids _ (getD_mem ob0 hj)) (by omega) (by rw [List.nil_append,List.length_singleton]; omega)
    rw [g1] at g3
    cases g3
    exact ⟨l,g1,g4,g2⟩
  generalize hPe:ticket_findings_fuel F (n+1)=P at hR hl
  have hRs:∀ i j,i < std.f5.length→j < o.f4.length→∀ s,P (std.f5.getD i tf0) (o.f4.getD j ob0) ([]++[s])=some ((P (std.f5.getD i tf0) (o.f4.getD j ob0) ([]++[s])).getD [])∧((P (std.f5.getD i tf0) (o.f4.getD j ob0) ([]++[s])).getD []).length≤65 * sz (o.f4.getD j ob0)∧((P (std.f5.getD i tf0) (o.f4.getD j ob0) ([]++[s])).getD []=[]↔okV (std.f5.getD i tf0).f0 (o.f4.getD j ob0)=true):=by
    intro i j hi hj s
    obtain ⟨l,g1,g2,g3⟩:=hR i j hi hj s
    rw [g1]
    exact ⟨rfl,g2,g3⟩
  have hol:=out_len (f:=std) (o:=o) (p:=[]) (R:=fun a b c=>(P a b c).getD []) (N:=65) (fun i j hi hj s=>(hRs i j hi hj s).2.1) (by omega) hko
  obtain ⟨M,hM⟩:∃ M,M=std.f5.length+o.f3.length+1:=⟨_,rfl⟩
  have hol0:=hol M 0 0 (by omega) (by omega)
  rw [List.drop_zero] at hol0
  have g1:=rec_eq (F:=F) (f:=std) (o:=o) (p:=[]) (R:=fun a b c=>(P a b c).getD []) (by omega) (by omega) (by omega) hko (by simp) (fun i j hi hj s=>(hRs i j hi hj s).1) M 0 0 F [] (by omega) (by omega) (by omega) (by omega) (by rw [List.length_nil]; omega)
  obtain ⟨_,hev,hallK,hallS,_⟩:=mrg_ok hinc hks M 0 0 (by omega) (by omega) (by omega) (fun x y hx=>by omega) (fun x y hx=>by omega)
  rw [List.nil_append,Int.natCast_zero] at g1
  have hle:l=(mrg std.f5 o.f3 M 0 0).flatMap (Ev.out std o [] fun a b c=>(P a b c).getD []):=by
    have hh:ticket_findings_body F P std o []=some ((mrg std.f5 o.f3 M 0 0).flatMap (Ev.out std o [] fun a b c=>(P a b c).getD [])):=by
      unfold ticket_findings_body
      have hidx:0≤std.f1∧std.f1 < (([(2:Int),(4:Int),(3:Int),(6:Int),(7:Int)]).length:Int):=by decide
      have hkind:(o.f0 != ([(2:Int),(4:Int),(3:Int),(6:Int),(7:Int)]).getD std.f1.toNat 0)=false:=by rw [h7]; rfl
      simp only [lett_eq,or_cond,and_cond,chk_pos hidx,hkind,cond_false]
      have h4:std.f1=4:=rfl
      rw [h4]
      simp only [mpGet,Int.reduceBEq,beq_self_eq_true,cond_true,cond_false,Option.isSome_none,Bool.false_and,call_some]
      unfold ticket_record_v1
      rw [g1,call_some,call_some] <;> rfl
    rw [hl] at hh
    exact Option.some.inj hh
  generalize hE:mrg std.f5 o.f3 M 0 0=E at *
  rw [range_map req o.f3,req_sum,count_ite hks,count_ite hks,count_ite hks,count_ite hks]
  have hnil:l=[]↔∀ e∈E,Ev.out std o [] (fun a b c=>(P a b c).getD []) e=[]:=by rw [hle,List.flatMap_eq_nil_iff]
  rw [hnil,List.all_eq_true]
  have injK:∀ i j,i < 7→j < 7→(std.f5.getD j tf0).f0=(std.f5.getD i tf0).f0→j=i:=by
    intro i j hi hj e
    rcases Nat.lt_trichotomy i j with h | h | h
    · have:=incK hinc h (by omega)
      rw [e] at this
      exact absurd this bl_irr
    · exact h.symm
    · have:=incK hinc h (by omega)
      rw [e] at this
      exact absurd this bl_irr
  have injS:∀ i j,i < o.f3.length→j < o.f3.length→o.f3.getD j []=o.f3.getD i []→j=i:=by
    intro i j hi hj e
    rcases Nat.lt_trichotomy i j with h | h | h
    · have:=incS hks h hj
      rw [e] at this
      exact absurd this bl_irr
    · exact h.symm
    · have:=incS hks h hi
      rw [e] at this
      exact absurd this bl_irr
  constructor
  · intro hz
    refine ⟨fun j hj=>?_,?_⟩
    · have hj:j < o.f3.length:=by
        have:=List.mem_range'_1.1 hj
        omega
      obtain ⟨e,he,hen⟩:=List.mem_map.1 (hallS j (Nat.zero_le _) hj)
      have hok:=hev e he
      have hze:=hz e he
      cases e with
      | miss i=>exact absurd hen.symm (hok.2.2 j hj)
      | extra j'=>exact absurd hze (List.cons_ne_nil _ _)
      | both i j' =>
        obtain ⟨_,_,hi,hj',hkk⟩:=hok
        have hen:(std.f5.getD i tf0).f0=o.f3.getD j []:=hen
        have:j'=j:=injS j j' hj hj' (hkk.trans hen)
        subst this
        rw [← hen]
        exact (hRs i j' hi (by omega) (o.f3.getD j' [])).2.2.1 hze
    · have hreq:∀ i,i < 7→(std.f5.getD i tf0).f6=false→(std.f5.getD i tf0).f0∈o.f3:=by
        intro i hi h6
        obtain ⟨e,he,hen⟩:=List.mem_map.1 (hallK i (Nat.zero_le _) (by omega))
        have hok:=hev e he
        have hze:=hz e he
        cases e with
        | miss i' =>
          have:i'=i:=injK i i' hi (by have:=hok.2.1; omega) hen
          subst this
          rw [out_f h6] at hze
          exact absurd hze (List.cons_ne_nil _ _)
        | extra j'=>exact absurd hze (List.cons_ne_nil _ _)
        | both i' j' =>
          have hen:(std.f5.getD i' tf0).f0=(std.f5.getD i tf0).f0:=hen
          rw [← hen]
          exact mem_getD.2 ⟨j',hok.2.2.2.1,hok.2.2.2.2⟩
      have m0:nCopies∈o.f3:=hreq 0 (by omega) rfl
      have m1:nFold∈o.f3:=hreq 1 (by omega) rfl
      have m2:nName∈o.f3:=hreq 2 (by omega) rfl
      have m4:nPages∈o.f3:=hreq 4 (by omega) rfl
      rw [if_pos m0,if_pos m1,if_pos m2,if_pos m4]
  · rintro ⟨hall,hsum⟩ e he
    have hok:=hev e he
    cases e with
    | miss i =>
      cases h6:(std.f5.getD i tf0).f6 with
      | true=>exact out_t h6
      | false =>
        exfalso
        have hno:(std.f5.getD i tf0).f0 ∉ o.f3:=fun hm=>by
          obtain ⟨j,hj,e⟩:=mem_getD.1 hm
          exact hok.2.2 j hj e
        have hi:=hok.2.1
        have hi7:i=0∨i=1∨i=2∨i=3∨i=4∨i=5∨i=6:=by omega
        have le1:∀ s:Str,(if s∈o.f3 then 1 else 0)≤1:=fun s=>by split <;> omega
        have l0:=le1 nCopies
        have l1:=le1 nFold
        have l2:=le1 nName
        have l4:=le1 nPages
        rcases hi7 with rfl | rfl | rfl | rfl | rfl | rfl | rfl
        · have hno:nCopies ∉ o.f3:=hno
          rw [if_neg hno] at hsum
          omega
        · have hno:nFold ∉ o.f3:=hno
          rw [if_neg hno] at hsum
          omega
        · have hno:nName ∉ o.f3:=hno
          rw [if_neg hno] at hsum
          omega
        · cases h6
        · have hno:nPages ∉ o.f3:=hno
          rw [if_neg hno] at hsum
          omega
        · cases h6
        · cases h6
    | extra j =>
      exfalso
      have h1:=hall j (List.mem_range'_1.2 ⟨Nat.zero_le _,by have:=hok.2.1; omega⟩)
      rw [okV_unknown fun i hi=>hok.2.2 i (by omega)] at h1
      cases h1
    | both i j =>
      obtain ⟨_,_,hi,hj,hkk⟩:=hok
      have h1:=hall j (List.mem_range'_1.2 ⟨Nat.zero_le _,by omega⟩)
      rw [hkk] at h1
      exact (hRs i j hi (by omega) (o.f3.getD j [])).2.2.2 h1
theorem standard_law {F:Nat} (hF:4294967300≤F) (hF2:maxLen < F) {o:S_Object} (ho:Sm o):law3_TicketStandardSchema F o=some true:=by
  obtain ⟨e,e2,t,h1,h2,h3⟩:=validate_eq hF hF2 std_sm ho
  obtain ⟨e',c1,c2,c3⟩:=check_eq hF hF2 std_sm
  have he0:ref3_SchemaError F std=some 0:=by
    obtain ⟨m,rfl⟩:∃ m,F=m+1000:=⟨F - 1000,by omega⟩
    exact schema_std m
  rw [he0] at h1 c2
  cases h1
  cases c2
  unfold law3_TicketStandardSchema
  rw [fact_eq hF hF2,call_some,std_eq,call_some,Bool.not_true,cond_false]
  rcases h3 with ⟨he,h4⟩ | ⟨_,he,h4⟩ | ⟨_,rfl,hf,hok,hsz,l,h4,h5,h6,h7⟩
  · exact absurd rfl he
  · have hne:(e2 != 0)=true:=by simpa using he
    rw [h4,call_some,h2,call_some]
    simp only [hne,cond_true,beq_self_eq_true]
    rfl
  · have hno:=hok.node
    have hmany:=hno.many
    have hfl:ticket_findings F std o []=some l:=by
      obtain ⟨l',r1,r2,_,_⟩:=findings_eq hF F 5 std o [] (by omega) hf hok hsz (by simp only [List.length_nil]; omega)
      change ref3_Refused F std o []=some l' at r2
      rw [h5] at r2
      cases r2
      exact r1
    have hko:o.f3.length=o.f4.length∨o.f3=[]:=by
      by_cases hk7:o.f0=7
      · exact .inl (hno.ks hk7)
      · exact .inr (hno.ks0 hk7)
    have hloop:∀ v1,law3_TicketStandardSchema_L0 F o F v1 0 0=some (v1 && (List.range' 0 o.f3.length).all (fun j=>okV (o.f3.getD j []) (o.f4.getD j ob0)),((0+((List.range' 0 o.f3.length).map fun j=>req (o.f3.getD j [])).sum:Nat):Int)):=by
      intro v1
      rcases hko with hko | hko
      · have:=stdloop_eq (F:=F) (o:=o) (by omega) hko o.f3.length 0 F v1 0 (by omega) (by omega) (Nat.le_refl _)
        simpa only [Int.natCast_zero] using this
      · obtain ⟨n,hn⟩:∃ n,F=n+1:=⟨F - 1,by omega⟩
        have:∀ m,m=n+1→law3_TicketStandardSchema_L0 F o m v1 0 0=some (v1,0):=by
          rintro _ rfl
          rw [law3_TicketStandardSchema_L0,hko]
          rfl
        rw [this F hn,hko]
        simp
    rw [h4,call_some,h2,call_some,bne_self_eq_false,cond_false,hloop,call_some,c1]
    simp only [call_some,lett_eq,beq_self_eq_true,cond_true,Nat.zero_add]
    by_cases hk7:o.f0=7
    · have hst:=std_rec hF hf hok hsz hk7 hfl
      rw [hk7]
      generalize (List.range' 0 o.f3.length).all (fun j=>okV (o.f3.getD j []) (o.f4.getD j ob0))=A at hst
      generalize ((List.range' 0 o.f3.length).map fun j=>req (o.f3.getD j [])).sum=B at hst
      congr 1
      rw [beq_self_eq_true,Bool.true_and,beq_iff_eq,Bool.eq_iff_iff]
      cases A with
      | false=>simpa using fun h=>absurd (hst.1 h).1 (by decide)
      | true =>
        simp only [cond_true,beq_iff_eq]
        constructor
        · intro h
          have:=(hst.1 (List.eq_nil_of_length_eq_zero (by omega))).2
          omega
        · intro h
          rw [hst.2 ⟨rfl,by omega⟩]
          rfl
    · have hb:(o.f0 == 7)=false:=by simpa using hk7
      rw [hb]
      simp only [Bool.false_and,cond_false]
      have hl:l≠[]:=by
        rintro rfl
        obtain ⟨n,hn⟩:∃ n,F=n+1:=⟨F - 1,by omega⟩
        have hun:∀ m,m=n+1→ticket_findings_fuel F m std o []=ticket_findings_body F (ticket_findings_fuel F n) std o []:=by rintro _ rfl; rfl
        have hx:ticket_findings_body F (ticket_findings_fuel F n) std o []=some []:=(hun F hn).symm.trans hfl
        unfold ticket_findings_body at hx
        have hidx:0≤std.f1∧std.f1 < (([(2:Int),(4:Int),(3:Int),(6:Int),(7:Int)]).length:Int):=by decide
        have hkind:(o.f0 != ([(2:Int),(4:Int),(3:Int),(6:Int),(7:Int)]).getD std.f1.toNat 0)=true:=by
          change (o.f0 != 7)=true
          simpa using hk7
        simp only [lett_eq,chk_pos hidx,hkind,cond_true] at hx
        rw [fc_eq (by simp),call_some] at hx
        cases hx
      cases l with
      | nil=>exact absurd rfl hl
      | cons x l =>
        congr 1
end Go.Vm.TicG
