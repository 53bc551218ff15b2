/-
  TICKETS,PLAIN,part 14: the law of the standard schema.
-/
import Derived.Test.YtbfjbkndglcabaaDoorTicLq
namespace Go.Vm.TicG
section
variable {F:Nat} {P:S_TicketField→S_Object→List Str→Option Fnd} {v:S_Object} {p:List Str} {q:Bool} {d:S_Object} {nm:Str}
theorem kidInt {a b:Int} (hp:p.length≤100000):∃ l:Fnd,ticket_findings_body F P ⟨nm,0,a,b,[],[],q,d⟩ v p=some l∧(l=[]↔v.f0=2∧a≤v.f1∧v.f1≤b):=by
  unfold ticket_findings_body
  have hidx:(0:Int)≤0∧(0:Int) < (([(2:Int),(4:Int),(3:Int),(6:Int),(7:Int)]).length:Int):=by decide
  simp only [lett_eq,or_cond,and_cond,chk_pos hidx]
  by_cases h0:v.f0=2
  case neg =>
    have hb:(v.f0 != ([(2:Int),(4:Int),(3:Int),(6:Int),(7:Int)]).getD (0:Int).toNat 0)=true:=by simpa using h0
    rw [hb,cond_true,fc_eq hp,call_some]
    exact ⟨_,rfl,by simp [h0]⟩
  have hb:(v.f0 != ([(2:Int),(4:Int),(3:Int),(6:Int),(7:Int)]).getD (0:Int).toNat 0)=false:=by simpa using h0
  rw [hb,cond_false]
  simp only [mpGet,Int.reduceBEq,beq_self_eq_true,cond_true,cond_false,Option.getD_some,Option.isSome_some,Bool.true_and,Bool.false_and,call_some]
  cases hr:(decide (v.f1 < a) || decide (v.f1 > b)) with
  | true =>
    simp only [cond_true]
    rw [fc_eq hp,call_some]
    simp only [Bool.or_eq_true,decide_eq_true_eq] at hr
    exact ⟨_,rfl,⟨fun h=>(by cases h),fun h=>by omega⟩⟩
  | false =>
    simp only [Bool.or_eq_false_iff,decide_eq_false_iff_not] at hr
    exact ⟨[],rfl,⟨fun _=>⟨h0,by omega,by omega⟩,fun _=>rfl⟩⟩
theorem kidStr {a b:Int} (hp:p.length≤100000):∃ l:Fnd,ticket_findings_body F P ⟨nm,1,a,b,[],[],q,d⟩ v p=some l∧(l=[]↔v.f0=4∧a≤v.f2.length∧(v.f2.length:Int)≤b):=by
  unfold ticket_findings_body
  have hidx:(0:Int)≤1∧(1:Int) < (([(2:Int),(4:Int),(3:Int),(6:Int),(7:Int)]).length:Int):=by decide
  simp only [lett_eq,or_cond,and_cond,chk_pos hidx]
  by_cases h0:v.f0=4
  case neg =>
    have hb:(v.f0 != ([(2:Int),(4:Int),(3:Int),(6:Int),(7:Int)]).getD (1:Int).toNat 0)=true:=by simpa using h0
    rw [hb,cond_true,fc_eq hp,call_some]
    exact ⟨_,rfl,by simp [h0]⟩
  have hb:(v.f0 != ([(2:Int),(4:Int),(3:Int),(6:Int),(7:Int)]).getD (1:Int).toNat 0)=false:=by simpa using h0
  rw [hb,cond_false]
  simp only [mpGet,Int.reduceBEq,beq_self_eq_true,cond_true,cond_false,Option.getD_some,Option.isSome_some,Bool.true_and,Bool.false_and,call_some]
  cases hr:(decide ((v.f2.length:Int) < a) || decide ((v.f2.length:Int) > b)) with
  | true =>
    simp only [cond_true]
    rw [fc_eq hp,call_some]
    simp only [Bool.or_eq_true,decide_eq_true_eq] at hr
    exact ⟨_,rfl,⟨fun h=>(by cases h),fun h=>by omega⟩⟩
  | false =>
    simp only [Bool.or_eq_false_iff,decide_eq_false_iff_not] at hr
    exact ⟨[],rfl,⟨fun _=>⟨h0,by omega,by omega⟩,fun _=>rfl⟩⟩
theorem kidWord {ws:List Str} (hp:p.length≤100000) (hw:ws.length≤1000) (hF:1000 < F):∃ l:Fnd,ticket_findings_body F P ⟨nm,2,0,0,ws,[],q,d⟩ v p=some l∧(l=[]↔v.f0=3∧v.f2∈ws):=by
  unfold ticket_findings_body
  have hidx:(0:Int)≤2∧(2:Int) < (([(2:Int),(4:Int),(3:Int),(6:Int),(7:Int)]).length:Int):=by decide
  simp only [lett_eq,or_cond,and_cond,chk_pos hidx]
  by_cases h0:v.f0=3
  case neg =>
    have hb:(v.f0 != ([(2:Int),(4:Int),(3:Int),(6:Int),(7:Int)]).getD (2:Int).toNat 0)=true:=by simpa using h0
    rw [hb,cond_true,fc_eq hp,call_some]
    exact ⟨_,rfl,by simp [h0]⟩
  have hb:(v.f0 != ([(2:Int),(4:Int),(3:Int),(6:Int),(7:Int)]).getD (2:Int).toNat 0)=false:=by simpa using h0
  rw [hb,cond_false]
  simp only [mpGet,Int.reduceBEq,beq_self_eq_true,cond_true,cond_false,Option.isSome_none,Bool.true_and,Bool.false_and,call_some,Bool.and_true]
  rw [contains_eq (by omega) (by omega),call_some]
  by_cases hm:v.f2∈ws
  · rw [decide_eq_true hm]
    exact ⟨[],rfl,⟨fun _=>⟨h0,hm⟩,fun _=>rfl⟩⟩
  · rw [decide_eq_false hm]
    simp only [Bool.not_false,cond_true]
    rw [fc_eq hp,call_some]
    exact ⟨_,rfl,⟨fun h=>(by cases h),fun h=>absurd h.2 hm⟩⟩
end
/-- What a field of the standard refuses. -/
theorem kid_eq {F n:Nat} {v:S_Object} {p:List Str} (hF:1000 < F) (hp:p.length≤100000):∀ i,i < 7→∃ l:Fnd,ticket_findings_fuel F (n+1) (std.f5.getD i tf0) v p=some l∧(l=[]↔okV (std.f5.getD i tf0).f0 v=true):=by
  intro i hi
  have hi7:i=0∨i=1∨i=2∨i=3∨i=4∨i=5∨i=6:=by omega
  rcases hi7 with rfl | rfl | rfl | rfl | rfl | rfl | rfl
  · obtain ⟨l,h1,h2⟩:=kidInt (F:=F) (P:=ticket_findings_fuel F n) (v:=v) (q:=false) (d:=ob0) (nm:=nCopies) (a:=1) (b:=9999) hp
    refine ⟨l,h1,h2.trans ?_⟩
    change _↔((v.f0 == 2 && decide (v.f1 ≥ 1)) && decide (v.f1≤9999))=true
    simp only [Bool.and_eq_true,beq_iff_eq,decide_eq_true_eq]
    omega
  · obtain ⟨l,h1,h2⟩:=kidStr (F:=F) (P:=ticket_findings_fuel F n) (v:=v) (q:=false) (d:=ob0) (nm:=nFold) (a:=3) (b:=35) hp
    refine ⟨l,h1,h2.trans ?_⟩
    change _↔((v.f0 == 4 && decide ((v.f2.length:Int) ≥ 3)) && decide ((v.f2.length:Int)≤35))=true
    simp only [Bool.and_eq_true,beq_iff_eq,decide_eq_true_eq]
    omega
  · obtain ⟨l,h1,h2⟩:=kidStr (F:=F) (P:=ticket_findings_fuel F n) (v:=v) (q:=false) (d:=ob0) (nm:=nName) (a:=1) (b:=16) hp
    refine ⟨l,h1,h2.trans ?_⟩
    change _↔((v.f0 == 4 && decide ((v.f2.length:Int) ≥ 1)) && decide ((v.f2.length:Int)≤16))=true
    simp only [Bool.and_eq_true,beq_iff_eq,decide_eq_true_eq]
    omega
  · obtain ⟨l,h1,h2⟩:=kidWord (F:=F) (P:=ticket_findings_fuel F n) (v:=v) (q:=true) (d:=S_Object.mk (3:Int) 0 sNo [] []) (nm:=nNumbered) (ws:=[sNo,sYes]) hp (by decide) hF
    refine ⟨l,h1,h2.trans ?_⟩
    change _↔(v.f0 == 3 && (v.f2 == sYes || v.f2 == sNo))=true
    simp only [Bool.and_eq_true,Bool.or_eq_true,beq_iff_eq,List.mem_cons,List.not_mem_nil,or_false]
    exact and_congr Iff.rfl Or.comm
  · obtain ⟨l,h1,h2⟩:=kidInt (F:=F) (P:=ticket_findings_fuel F n) (v:=v) (q:=false) (d:=ob0) (nm:=nPages) (a:=1) (b:=64) hp
    refine ⟨l,h1,h2.trans ?_⟩
    change _↔((v.f0 == 2 && decide (v.f1 ≥ 1)) && decide (v.f1≤64))=true
    simp only [Bool.and_eq_true,beq_iff_eq,decide_eq_true_eq]
    omega
  · obtain ⟨l,h1,h2⟩:=kidInt (F:=F) (P:=ticket_findings_fuel F n) (v:=v) (q:=true) (d:=S_Object.mk (2:Int) (5:Int) [] [] []) (nm:=nPriority) (a:=0) (b:=9) hp
    refine ⟨l,h1,h2.trans ?_⟩
    change _↔((v.f0 == 2 && decide (v.f1 ≥ 0)) && decide (v.f1≤9))=true
    simp only [Bool.and_eq_true,beq_iff_eq,decide_eq_true_eq]
    omega
  · obtain ⟨l,h1,h2⟩:=kidWord (F:=F) (P:=ticket_findings_fuel F n) (v:=v) (q:=true) (d:=S_Object.mk (3:Int) 0 sSheetwise [] []) (nm:=nStyle) (ws:=[sSheetwise,sTurn,sTumble]) hp (by decide) hF
    refine ⟨l,h1,h2.trans ?_⟩
    change _↔(v.f0 == 3 && ((v.f2 == sSheetwise || v.f2 == sTurn) || v.f2 == sTumble))=true
    simp only [Bool.and_eq_true,Bool.or_eq_true,beq_iff_eq,List.mem_cons,List.not_mem_nil,or_false,or_assoc]
/-- An unknown name is not as the standard wants it. -/
theorem okV_unknown {k:Str} {v:S_Object} (h:∀ i,i < 7→(std.f5.getD i tf0).f0≠k):okV k v=false:=by
  have hb:∀ i,i < 7→(k == (std.f5.getD i tf0).f0)=false:=by
    intro i hi
    rw [beq_eq_false_iff_ne]
    exact fun e=>h i hi e.symm
  have h0:(k == nCopies)=false:=hb 0 (by omega)
  have h1:(k == nFold)=false:=hb 1 (by omega)
  have h2:(k == nName)=false:=hb 2 (by omega)
  have h3:(k == nNumbered)=false:=hb 3 (by omega)
  have h4:(k == nPages)=false:=hb 4 (by omega)
  have h5:(k == nPriority)=false:=hb 5 (by omega)
  have h6:(k == nStyle)=false:=hb 6 (by omega)
  unfold okV
  rw [h0,h1,h2,h3,h4,h5,h6]
  rfl
theorem req_sum (ks:List Str):(ks.map req).sum=ks.count nCopies+ks.count nPages+ks.count nFold+ks.count nName:=by
  induction ks with
  | nil=>rfl
  | cons k ks ih =>
    rw [List.map_cons,List.sum_cons,ih]
    simp only [List.count_cons]
    unfold req
    by_cases h1:k=nCopies
    · subst h1
      have e2:(nCopies == nPages)=false:=by decide
      have e3:(nCopies == nFold)=false:=by decide
      have e4:(nCopies == nName)=false:=by decide
      simp only [beq_self_eq_true,e2,e3,e4,cond_true,if_true]
      simp
      omega
    have b1:(k == nCopies)=false:=by simpa using h1
    by_cases h2:k=nPages
    · subst h2
      have e3:(nPages == nFold)=false:=by decide
      have e4:(nPages == nName)=false:=by decide
      simp only [b1,beq_self_eq_true,e3,e4,cond_true,cond_false,if_true]
      simp
      omega
    have b2:(k == nPages)=false:=by simpa using h2
    by_cases h3:k=nFold
    · subst h3
      have e4:(nFold == nName)=false:=by decide
      simp only [b1,b2,beq_self_eq_true,e4,cond_true,cond_false,if_true]
      simp
      omega
    have b3:(k == nFold)=false:=by simpa using h3
    by_cases h4:k=nName
    · subst h4
      simp only [b1,b2,b3,beq_self_eq_true,cond_true,cond_false,if_true]
      simp
      omega
    have b4:(k == nName)=false:=by simpa using h4
    simp only [b1,b2,b3,b4,cond_false]
    simp
end Go.Vm.TicG
