/-
  TICKETS,PLAIN,part 12: the laws TicketCheckMatchesReference and TicketValidateMatchesReference.
-/
import Derived.Test.YtbfjbkndglcabaaDoorTicLo
namespace Go.Vm.TicG
/-- The object and the schema of the fact. -/
def factO:S_Object:=S_Object.mk (7:Int) 0 [] ([([78]:List UInt8)]) ([(S_Object.mk (2:Int) (4:Int) [] [] [])])
def factS:S_TicketField:=S_TicketField.mk [] (4:Int) 0 0 [] ([(S_TicketField.mk ([78]:List UInt8) (0:Int) 1 3 [] [] true (S_Object.mk 0 0 [] [] []))]) false (S_Object.mk 0 0 [] [] [])
theorem sm0:Sm ob0:=.mk (Nat.zero_le _) (fun x hx=>by cases hx) (fun x hx=>by cases hx)
theorem fo_sm:Sm factO:=.mk (Nat.zero_le _) (fun x hx=>by rw [List.mem_singleton.1 hx]; decide) (fun x hx=>by rw [List.mem_singleton.1 hx]; exact .mk (Nat.zero_le _) (fun x hx=>by cases hx) (fun x hx=>by cases hx))
theorem fs_sm:SmF factS:=.mk (Nat.zero_le _) (fun x hx=>by cases hx) (fun x hx=>by
  rw [List.mem_singleton.1 hx]
  exact .mk (by decide) (fun x hx=>by cases hx) (fun x hx=>by cases hx) (Nat.zero_le _) sm0) (by decide) sm0
theorem shown_fact (m:Nat):ref3_Shown (m+1000) factO=some ([60,60,47,78,32,52,62,62],0):=by rfl
theorem schema_fact (m:Nat):ref3_SchemaError (m+1000) factS=some 0:=by rfl
theorem refused_fact (m:Nat):ref3_Refused (m+1000) factS factO []=some [⟨[[78]],3⟩]:=by rfl
/-- What Validate does. -/
theorem validate_eq {F:Nat} (hF:4294967300≤F) (hF2:maxLen < F) {s:S_TicketField} {o:S_Object} (hs:SmF s) (ho:Sm o) :
    ∃ e e2 t,ref3_SchemaError F s=some e∧ref3_Shown F o=some (t,e2) ∧
      ((e≠0∧ticket_Validate F s o=some ([],e))∨(e=0∧e2≠0∧ticket_Validate F s o=some ([],e2)) ∨
        (e=0∧e2=0∧FOk 5 s∧OOk F o∧sz o≤4096∧∃ l:Fnd,ticket_Validate F s o=some (l,0)∧ref3_Refused F s o []=some l∧l.length≤65 * sz o∧∀ x∈l,x.f0.length≤sz o)):=by
  obtain ⟨e,c1,c2,c3⟩:=check_eq hF hF2 hs
  obtain ⟨e2,t,o1,o2,o3⟩:=shown_eq hF hF2 ho
  refine ⟨e,e2,t,c2,o2,?_⟩
  unfold ticket_Validate
  rw [c1,call_some]
  by_cases he:e=0
  case neg =>
    have hne:(e != 0)=true:=by simpa using he
    rw [hne]
    exact .inl ⟨he,rfl⟩
  subst he
  rw [bne_self_eq_false,cond_false,o1,call_some]
  by_cases he2:e2=0
  case neg =>
    have hne:(e2 != 0)=true:=by simpa using he2
    rw [hne]
    exact .inr (.inl ⟨rfl,he2,rfl⟩)
  subst he2
  obtain ⟨ook,osz⟩:=o3 rfl
  obtain ⟨l,r1,r2,r3,r4⟩:=findings_eq hF F 5 s o [] (by omega) (c3 rfl) ook osz (by simp only [List.length_nil]; omega)
  change ticket_findings F s o []=some l at r1
  change ref3_Refused F s o []=some l at r2
  rw [bne_self_eq_false,cond_false,r1,call_some]
  exact .inr (.inr ⟨rfl,rfl,c3 rfl,ook,osz,l,rfl,r2,r3,fun x hx=>by have:=r4 x hx; simpa using this⟩)
theorem fact_eq {F:Nat} (hF:4294967300≤F) (hF2:maxLen < F):law3_ticketFact F=some true:=by
  obtain ⟨e,e2,t,h1,h2,h3⟩:=validate_eq hF hF2 fs_sm fo_sm
  obtain ⟨m,rfl⟩:∃ m,F=m+1000:=⟨F - 1000,by omega⟩
  rw [schema_fact m] at h1
  rw [shown_fact m] at h2
  cases h1
  cases h2
  rcases h3 with ⟨h,_⟩ | ⟨_,h,_⟩ | ⟨_,_,_,_,_,l,h4,h5,_⟩
  · exact absurd rfl h
  · exact absurd rfl h
  · rw [refused_fact m] at h5
    cases h5
    unfold law3_ticketFact
    change call (ticket_Validate (m+1000) factS factO) _=_
    rw [h4]
    rfl
end Go.Vm.TicG
