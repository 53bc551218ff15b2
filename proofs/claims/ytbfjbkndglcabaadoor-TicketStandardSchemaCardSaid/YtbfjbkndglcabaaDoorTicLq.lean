/-
  TICKETS,PLAIN,part 13: the standard schema.
-/
import Derived.Test.YtbfjbkndglcabaaDoorTicLp
namespace Go.Vm.TicG
abbrev nCopies:Str:=[67,111,112,105,101,115]
abbrev nFold:Str:=[70,111,108,100]
abbrev nName:Str:=[78,97,109,101]
abbrev nNumbered:Str:=[78,117,109,98,101,114,101,100]
abbrev nPages:Str:=[80,97,103,101,115]
abbrev nPriority:Str:=[80,114,105,111,114,105,116,121]
abbrev nStyle:Str:=[83,116,121,108,101]
abbrev sNo:Str:=[78,111]
abbrev sYes:Str:=[89,101,115]
abbrev sSheetwise:Str:=[83,104,101,101,116,119,105,115,101]
abbrev sTurn:Str:=[84,117,114,110]
abbrev sTumble:Str:=[84,117,109,98,108,101]
def std:S_TicketField:=S_TicketField.mk [] (4:Int) 0 0 [] ([(S_TicketField.mk nCopies (0:Int) (1:Int) (9999:Int) [] [] false ob0),(S_TicketField.mk nFold (1:Int) (3:Int) (35:Int) [] [] false ob0),(S_TicketField.mk nName (1:Int) (1:Int) (16:Int) [] [] false ob0),
  (S_TicketField.mk nNumbered (2:Int) 0 0 [sNo,sYes] [] true (S_Object.mk (3:Int) 0 sNo [] [])),(S_TicketField.mk nPages (0:Int) (1:Int) (64:Int) [] [] false ob0),(S_TicketField.mk nPriority (0:Int) (0:Int) (9:Int) [] [] true (S_Object.mk (2:Int) (5:Int) [] [] [])),
  (S_TicketField.mk nStyle (2:Int) 0 0 [sSheetwise,sTurn,sTumble] [] true (S_Object.mk (3:Int) 0 sSheetwise [] []))]) false ob0
theorem std_eq (F:Nat):ticket_Standard F=some std:=rfl
theorem schema_std (m:Nat):ref3_SchemaError (m+1000) std=some 0:=by rfl
theorem sm_leaf {k v:Int} {s:Str} (h:s.length≤maxLen):Sm (S_Object.mk k v s [] []):=.mk h (fun x hx=>by cases hx) (fun x hx=>by cases hx)
theorem smf_leaf {n:Str} {k a b:Int} {ws:List Str} {q:Bool} {o:S_Object} (h:n.length≤maxLen) (hw:∀ x∈ws,x.length≤maxLen) (ho:Sm o):SmF (S_TicketField.mk n k a b ws [] q o):=.mk h hw (fun x hx=>by cases hx) (Nat.zero_le _) ho
theorem std_sm:SmF std:=by
  refine .mk (Nat.zero_le _) (fun x hx=>by cases hx) ?_ (by decide) sm0
  have nil:∀ x∈([]:List Str),x.length≤maxLen:=fun x hx=>by cases hx
  refine List.forall_mem_cons.2 ⟨smf_leaf (by decide) nil sm0,List.forall_mem_cons.2 ⟨smf_leaf (by decide) nil sm0,List.forall_mem_cons.2 ⟨smf_leaf (by decide) nil sm0,List.forall_mem_cons.2 ⟨smf_leaf (by decide) (by decide) (sm_leaf (by decide)),List.forall_mem_cons.2 ⟨smf_leaf (by decide) nil sm0,
    List.forall_mem_cons.2 ⟨smf_leaf (by decide) nil (sm_leaf (by decide)),List.forall_mem_cons.2 ⟨smf_leaf (by decide) (by decide) (sm_leaf (by decide)),fun x hx=>by cases hx⟩⟩⟩⟩⟩⟩⟩
/-- Is an entry as the standard wants it? -/
def okV (k:Str) (v:S_Object):Bool :=
  bif k == nCopies then (v.f0 == 2 && decide (v.f1 ≥ 1)) && decide (v.f1≤9999)
  else bif k == nPages then (v.f0 == 2 && decide (v.f1 ≥ 1)) && decide (v.f1≤64)
  else bif k == nFold then (v.f0 == 4 && decide ((v.f2.length:Int) ≥ 3)) && decide ((v.f2.length:Int)≤35)
  else bif k == nName then (v.f0 == 4 && decide ((v.f2.length:Int) ≥ 1)) && decide ((v.f2.length:Int)≤16)
  else bif k == nPriority then (v.f0 == 2 && decide (v.f1 ≥ 0)) && decide (v.f1≤9)
  else bif k == nNumbered then v.f0 == 3 && (v.f2 == sYes || v.f2 == sNo)
  else bif k == nStyle then v.f0 == 3 && ((v.f2 == sSheetwise || v.f2 == sTurn) || v.f2 == sTumble)
  else false
def req (k:Str):Nat:=bif k == nCopies then 1 else bif k == nPages then 1 else bif k == nFold then 1 else bif k == nName then 1 else 0
theorem stdloop_eq {F:Nat} {o:S_Object} (hk:o.f3.length≤1000) (hko:o.f3.length=o.f4.length):∀ (m i n:Nat) (v1:Bool) (v2:Nat),i+m=o.f3.length→m < n→v2≤i →
    law3_TicketStandardSchema_L0 F o n v1 v2 i=some (v1 && (List.range' i m).all (fun j=>okV (o.f3.getD j []) (o.f4.getD j ob0)),((v2+((List.range' i m).map fun j=>req (o.f3.getD j [])).sum:Nat):Int)):=by
  intro m
  induction m with
  | zero =>
    intro i n v1 v2 h hn hv
    obtain ⟨n,rfl⟩:∃ k,n=k+1:=⟨n - 1,by omega⟩
    obtain rfl:i=o.f3.length:=by omega
    rw [law3_TicketStandardSchema_L0,dec_end,cond_false]
    simp
  | succ m ih =>
    intro i n v1 v2 h hn hv
    obtain ⟨n,rfl⟩:∃ k,n=k+1:=⟨n - 1,by omega⟩
    have hi:i < o.f3.length:=by omega
    have hi4:i < o.f4.length:=by omega
    have hw:IntKind.i64.wrap ((i:Int)+1)=((i+1:Nat):Int):=wrap_succ (by omega)
    have hw2:IntKind.i64.wrap ((v2:Int)+1)=((v2+1:Nat):Int):=wrap_succ (by omega)
    have e0:o.f3.getD (i:Int).toNat []=o.f3.getD i []:=rfl
    have e1:o.f4.getD (i:Int).toNat (S_Object.mk 0 0 [] [] [])=o.f4.getD i ob0:=rfl
    rw [law3_TicketStandardSchema_L0,dec_lt hi,cond_true,chk_in hi,chk_in hi4]
    simp only [e0,e1,lett_eq,or_cond,and_cond,hw,hw2,List.range'_succ,List.all_cons,List.map_cons,List.sum_cons]
    have hr1:req (o.f3.getD i [])≤1:=by
      unfold req
      cases o.f3.getD i [] == nCopies <;> cases o.f3.getD i [] == nPages <;> cases o.f3.getD i [] == nFold <;> cases o.f3.getD i [] == nName <;> decide
    have hih:=ih (i+1) n (v1 && okV (o.f3.getD i []) (o.f4.getD i ob0)) (v2+req (o.f3.getD i [])) (by omega) (by omega) (by omega)
    rw [Bool.and_assoc,Nat.add_assoc] at hih
    rw [← hih]
    generalize o.f3.getD i []=k
    generalize o.f4.getD i ob0=v
    unfold okV req
    cases k == nCopies with
    | true=>simp only [cond_true,call_some,Bool.and_assoc]
    | false =>
    cases k == nPages with
    | true=>simp only [cond_true,cond_false,call_some,Bool.and_assoc]
    | false =>
    cases k == nFold with
    | true=>simp only [cond_true,cond_false,call_some,Bool.and_assoc]
    | false =>
    cases k == nName with
    | true=>simp only [cond_true,cond_false,call_some,Bool.and_assoc]
    | false =>
    cases k == nPriority with
    | true=>simp only [cond_true,cond_false,call_some,Bool.and_assoc,Nat.add_zero]
    | false =>
    cases k == nNumbered with
    | true=>simp only [cond_true,cond_false,call_some,Bool.and_assoc,Nat.add_zero]
    | false =>
    cases k == nStyle with
    | true=>simp only [cond_true,cond_false,call_some,Bool.and_assoc,Nat.add_zero]
    | false=>simp only [cond_false,call_some,Bool.and_false,Nat.add_zero]
end Go.Vm.TicG
