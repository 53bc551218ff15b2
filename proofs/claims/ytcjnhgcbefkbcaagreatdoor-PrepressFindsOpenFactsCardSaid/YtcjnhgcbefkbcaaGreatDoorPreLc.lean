/-
  PREPRESS,PLAIN,part 3: the errors of conditions: by recursion,and by a stack.
-/
import Derived.Test.YtcjnhgcbefkbcaaGreatDoorPreLb
namespace Go.Vm.PreG
/-- The names in a condition are as long as strings are. -/
inductive SmC:S_PrepressCond→Prop
  | mk {c:S_PrepressCond} (h:SmT c) (hk:∀ x∈c.f4,SmC x):SmC c
theorem SmC.t {c:S_PrepressCond} (h:SmC c):SmT c:=by cases h; assumption
theorem SmC.l {c:S_PrepressCond} (h:SmC c):∀ x∈c.f4,SmC x:=by cases h; assumption
/-- A condition without an error,with m levels left. -/
def Good:Nat→S_PrepressCond→Prop
  | 0,_=>False
  | m+1,c=>(c.f0=0∧CmpOk c)∨(c.f0=1∧∃ a,c.f4=[a]∧Good m a∧c.f1=[])∨((c.f0=2∨c.f0=3)∧∃ a b,c.f4=[a,b]∧Good m a∧Good m b∧c.f1=[])
abbrev w0:S_ref3_wait:=S_ref3_wait.mk c0 0
theorem top_len {st:List S_ref3_wait} {w:S_ref3_wait} (h:st.length≤1000):IntKind.i64.wrap (((st++[w]).length:Int) - 1)=(st.length:Int):=by
  rw [wrap_id (by simp; omega)]
  simp
theorem top_get {st:List S_ref3_wait} {w:S_ref3_wait}:(st++[w]).getD st.length w0=w:=by simp
theorem top_take {st:List S_ref3_wait} {w:S_ref3_wait}:(st++[w]).take st.length=st:=by simp
theorem push1 {F:Nat} (hF:10≤F) {st:List S_ref3_wait} {c a:S_PrepressCond} {d:Nat} (hst:st.length≤1000) (hd:d≤12) (hc:c.f4=[a]) :
    ref3_condError_L2 F (st++[⟨c,d⟩]) c.f4 F st (0:Int)=some (st++[⟨a,((d+1:Nat):Int)⟩]):=by
  obtain ⟨G,rfl⟩:∃ q,F=q+2:=⟨F - 2,by omega⟩
  rw [ref3_condError_L2,hc,decide_eq_true (by simp),cond_true,lett_eq,lett_eq,lett_eq,top_len hst,nat_toNat,top_get,hc,wrap_succ (by omega)]
  have e1:IntKind.i64.wrap (IntKind.i64.wrap ((([a]:List S_PrepressCond).length:Int) - 1) - 0)=0:=rfl
  have e2:IntKind.i64.wrap ((0:Int)+1)=1:=rfl
  rw [e1,e2,chk_pos (by simp),chk_pos (by simp; omega),lett_eq,ref3_condError_L2,decide_eq_false (by simp),cond_false]
  rfl
theorem push2 {F:Nat} (hF:10≤F) {st:List S_ref3_wait} {c a b:S_PrepressCond} {d:Nat} (hst:st.length≤1000) (hd:d≤12) (hc:c.f4=[a,b]) :
    ref3_condError_L2 F (st++[⟨c,d⟩]) c.f4 F st (0:Int)=some ((st++[S_ref3_wait.mk b ((d+1:Nat):Int)])++[S_ref3_wait.mk a ((d+1:Nat):Int)]):=by
  obtain ⟨G,rfl⟩:∃ q,F=q+3:=⟨F - 3,by omega⟩
  have e1:IntKind.i64.wrap (IntKind.i64.wrap ((([a,b]:List S_PrepressCond).length:Int) - 1) - 0)=1:=rfl
  have e1':IntKind.i64.wrap (IntKind.i64.wrap ((([a,b]:List S_PrepressCond).length:Int) - 1) - 1)=0:=rfl
  have e2:IntKind.i64.wrap ((0:Int)+1)=1:=rfl
  have e3:IntKind.i64.wrap ((1:Int)+1)=2:=rfl
  rw [ref3_condError_L2,hc,decide_eq_true (by simp),cond_true,lett_eq,lett_eq,lett_eq,top_len hst,nat_toNat,top_get,hc,wrap_succ (by omega),e1,e2,chk_pos (by simp),chk_pos (by simp; omega),lett_eq]
  rw [ref3_condError_L2,decide_eq_true (by simp),cond_true,lett_eq,lett_eq,lett_eq,top_len hst,nat_toNat,top_get,hc,wrap_succ (by omega),e1',e3,chk_pos (by simp),chk_pos (by simp; omega),lett_eq]
  rw [ref3_condError_L2,decide_eq_false (by simp),cond_false]
  rfl
/-- The outcome of both for a condition. -/
def Both (F:Nat) (c:S_PrepressCond) (d k m:Nat) (p:Option (Int×Int)):Prop :=
  (∃ e k':Int,e≠0∧p=some (e,k')∧∀ (st:List S_ref3_wait) (q:Nat),st.length≤k→258≤q+k→ref3_condError_L0 F q (st++[⟨c,d⟩]) ((k+1:Nat):Int)=some (.esc e)) ∨
  (∃ k':Nat,p=some (0,(k':Int))∧k < k'∧k'≤256∧Good m c∧∀ (st:List S_ref3_wait) (q:Nat),st.length≤k→ref3_condError_L0 F (q+(k' - k)) (st++[⟨c,d⟩]) ((k+1:Nat):Int)=ref3_condError_L0 F q st ((k'+1:Nat):Int))
theorem mpGet_kind (x:Int):(x=1∧mpGet [((1:Int),(1:Int)),((2:Int),(2:Int)),((3:Int),(2:Int))] x=some 1)∨((x=2∨x=3)∧mpGet [((1:Int),(1:Int)),((2:Int),(2:Int)),((3:Int),(2:Int))] x=some 2)∨((x < 1∨3 < x)∧mpGet [((1:Int),(1:Int)),((2:Int),(2:Int)),((3:Int),(2:Int))] x=none):=by
  by_cases h1:x=1
  · subst h1; exact .inl ⟨rfl,rfl⟩
  by_cases h2:x=2
  · subst h2; exact .inr (.inl ⟨.inl rfl,rfl⟩)
  by_cases h3:x=3
  · subst h3; exact .inr (.inl ⟨.inr rfl,rfl⟩)
  · refine .inr (.inr ⟨by omega,?_⟩)
    have e1:(x == 1)=false:=by simpa using h1
    have e2:(x == 2)=false:=by simpa using h2
    have e3:(x == 3)=false:=by simpa using h3
    simp [mpGet,e1,e2,e3]
theorem cond_eq {F:Nat} (hF:maxLen < F):∀ (m d:Nat),d+m=13→1≤d→∀ (c:S_PrepressCond),SmC c→∀ (k n:Nat),m < n→k≤256→Both F c d k m (prepress_checker_cond_fuel F n c (d:Int) (k:Int)):=by
  have hmax:maxLen=9223372036854775807:=rfl
  intro m
  induction m with
  | zero =>
    intro d hdm hd1 c hs k n hn hk
    obtain ⟨n,rfl⟩:∃ q,n=q+1:=⟨n - 1,by omega⟩
    rw [prepress_checker_cond_fuel,prepress_checker_cond_body,wrap_succ (by omega)]
    by_cases hl:k+1 > 256
    · rw [decide_eq_true (by omega),cond_true]
      refine .inl ⟨2,_,by decide,rfl,fun st q hst hq=>?_⟩
      obtain ⟨q,rfl⟩:∃ r,q=r+1:=⟨q - 1,by omega⟩
      rw [ref3_condError_L0,decide_eq_true (by simp),cond_true,top_len (by omega),chk_pos ⟨by omega,by simp; omega⟩,chk_pos ⟨by omega,by simp; omega⟩,decide_eq_true (by omega),cond_true,callE_esc']
    · rw [decide_eq_false (by omega),cond_false,decide_eq_true (by omega),cond_true]
      refine .inl ⟨15,_,by decide,rfl,fun st q hst hq=>?_⟩
      obtain ⟨q,rfl⟩:∃ r,q=r+1:=⟨q - 1,by omega⟩
      rw [ref3_condError_L0,decide_eq_true (by simp),cond_true,top_len (by omega),chk_pos ⟨by omega,by simp; omega⟩,chk_pos ⟨by omega,by simp; omega⟩,decide_eq_false (by omega),cond_false,lett_eq,nat_toNat,top_get]
      dsimp only
      rw [decide_eq_true (by omega),cond_true,callE_esc']
  | succ m ih =>
    intro d hdm hd1 c hs k n hn hk
    obtain ⟨n,rfl⟩:∃ q,n=q+1:=⟨n - 1,by omega⟩
    rw [prepress_checker_cond_fuel,prepress_checker_cond_body,wrap_succ (by omega)]
    by_cases hl:k+1 > 256
    · rw [decide_eq_true (by omega),cond_true]
      refine .inl ⟨2,_,by decide,rfl,fun st q hst hq=>?_⟩
      obtain ⟨q,rfl⟩:∃ r,q=r+1:=⟨q - 1,by omega⟩
      rw [ref3_condError_L0,decide_eq_true (by simp),cond_true,top_len (by omega),chk_pos ⟨by omega,by simp; omega⟩,chk_pos ⟨by omega,by simp; omega⟩,decide_eq_true (by omega),cond_true,callE_esc']
    rw [decide_eq_false (by omega),cond_false,decide_eq_false (by omega),cond_false]
    -- what one round of the stack does
    have round:∀ (st:List S_ref3_wait) (q:Nat),st.length≤k→ref3_condError_L0 F (q+1) (st++[⟨c,d⟩]) ((k+1:Nat):Int) =
        callE (bif (c.f0 == (0:Int)) then
            call (ref3_compareError F c) fun y1=>bif (y1 != (0:Int)) then some (.esc y1) else some (.go st)
          else
            bif (bif (decide (c.f0 < (0:Int))) then true else (decide (c.f0 > (3:Int)))) then some (.esc (14:Int))
            else
              call (bif (c.f0 == (1:Int)) then some (1:Int) else some (2:Int)) fun v5 =>
              bif (bif (bif (bif (decide ((c.f1.length:Int) > (0:Int))) then true else (c.f2 != (0:Int))) then true else (c.f3 != (0:Int))) then true else ((c.f4.length:Int) != v5)) then some (.esc (4:Int))
              else call (ref3_condError_L2 F (st++[⟨c,d⟩]) c.f4 F st (0:Int)) fun v6=>some (.go v6))
          (fun e=>some (.esc e)) fun v7=>ref3_condError_L0 F q v7 ((k+2:Nat):Int):=by
      intro st q hst
      rw [ref3_condError_L0,decide_eq_true (by simp),cond_true,top_len (by omega),chk_pos ⟨by omega,by simp; omega⟩,chk_pos ⟨by omega,by simp; omega⟩,decide_eq_false (by omega),cond_false,wrap_succ (by omega)]
      simp only [lett_eq,nat_toNat,top_get,top_take]
      have e:S_PrepressCond.mk c.f0 c.f1 c.f2 c.f3 c.f4=c:=by cases c; rfl
      rw [decide_eq_false (by omega),cond_false,e]
    by_cases h0:c.f0=0
    · -- a comparison
      have hb:(c.f0 == 0)=true:=by simpa using h0
      rw [hb,cond_true]
      rcases compare_eq hF hs.t with ⟨e,he,h1,h2⟩ | ⟨h1,h2,h3⟩
      · rw [h1,call_some]
        refine .inl ⟨e,_,he,rfl,fun st q hst hq=>?_⟩
        obtain ⟨q,rfl⟩:∃ r,q=r+1:=⟨q - 1,by omega⟩
        have hne:(e != 0)=true:=by simpa using he
        rw [round st q hst,hb,cond_true,h2,call_some,hne,cond_true,callE_esc']
      · rw [h1,call_some]
        refine .inr ⟨k+1,rfl,by omega,by omega,.inl ⟨h0,h3⟩,fun st q hst=>?_⟩
        rw [show q+(k+1 - k)=q+1 by omega,round st q hst,hb,cond_true,h2,call_some]
        rfl
    have hb:(c.f0 == 0)=false:=by simpa using h0
    rw [hb,cond_false]
    rcases mpGet_kind c.f0 with ⟨hk1,hg⟩ | ⟨hk1,hg⟩ | ⟨hk1,hg⟩
    case inr.inr =>
      rw [hg]
      refine .inl ⟨14,((k+1:Nat):Int),by decide,rfl,fun st q hst hq=>?_⟩
      obtain ⟨q,rfl⟩:∃ r,q=r+1:=⟨q - 1,by omega⟩
      have:(bif (decide (c.f0 < (0:Int))) then true else (decide (c.f0 > (3:Int))))=true:=by
        rw [or_cond]
        rcases hk1 with h | h
        · rw [decide_eq_true (by omega)]; rfl
        · rw [decide_eq_true (show c.f0 > 3 by omega)]; simp
      rw [round st q hst,hb,cond_false,this,cond_true,callE_esc']
    all_goals (
      have hrange:(bif (decide (c.f0 < (0:Int))) then true else (decide (c.f0 > (3:Int))))=false:=by
        rw [decide_eq_false (by omega),decide_eq_false (by omega)]; rfl
      rw [hg]
      simp only [Option.isSome_some,Bool.not_true,cond_false,Option.getD_some,lett_eq])
    · -- not
      have hb1:(c.f0 == 1)=true:=by simpa using hk1
      cases hform:(bif (bif (bif (decide ((c.f1.length:Int) > (0:Int))) then true else (c.f2 != (0:Int))) then true else (c.f3 != (0:Int))) then true else ((c.f4.length:Int) != 1)) with
      | true =>
        refine .inl ⟨4,((k+1:Nat):Int),by decide,rfl,fun st q hst hq=>?_⟩
        obtain ⟨q,rfl⟩:∃ r,q=r+1:=⟨q - 1,by omega⟩
        rw [round st q hst,hb,cond_false,hrange,cond_false,hb1,cond_true,call_some,hform,cond_true,callE_esc']
      | false =>
        have hl1:c.f4.length=1:=by
          simp only [or_cond,Bool.or_eq_false_iff,bne_eq_false_iff_eq] at hform
          omega
        have hf1:c.f1=[]:=by
          simp only [or_cond,Bool.or_eq_false_iff,decide_eq_false_iff_not] at hform
          exact List.eq_nil_of_length_eq_zero (by omega)
        obtain ⟨a,ha⟩:∃ a,c.f4=[a]:=List.length_eq_one_iff.1 hl1
        have hsa:=hs.l a (by rw [ha]; simp)
        obtain ⟨G,rfl⟩:∃ q,F=q+2:=⟨F - 2,by omega⟩
        rw [cond_false,prepress_checker_cond_L1,ha,decide_eq_true (by simp),cond_true,chk_pos (by simp),show (0:Int).toNat=0 from rfl,List.getD_cons_zero,wrap_succ (by omega)]
        rcases ih (d+1) (by omega) (by omega) a hsa (k+1) n (by omega) (by omega) with ⟨e,k',he,h1,h2⟩ | ⟨k',h1,h2,h3,h4,h5⟩
        · rw [h1,call_some]
          have hne:(e != 0)=true:=by simpa using he
          refine .inl ⟨e,k',he,by simp only [hne,cond_true,callE_esc'],fun st q hst hq=>?_⟩
          obtain ⟨q,rfl⟩:∃ r,q=r+1:=⟨q - 1,by omega⟩
          rw [round st q hst,hb,cond_false,hrange,cond_false,hb1,cond_true,call_some,hform,cond_false,push1 (by omega) (by omega) (by omega) ha,call_some,callE_go]
          exact h2 st q (by omega) (by omega)
        · rw [h1,call_some]
          refine .inr ⟨k',?_,by omega,h3,.inr (.inl ⟨hk1,a,ha,h4,hf1⟩),fun st q hst=>?_⟩
          · rw [bne_self_eq_false,cond_false,show IntKind.i64.wrap ((0:Int)+1)=1 from rfl,prepress_checker_cond_L1,ha,decide_eq_false (by simp),cond_false,callE_go]
          · rw [show q+(k' - k)=(q+(k' - (k+1)))+1 by omega,round st _ hst,hb,cond_false,hrange,cond_false,hb1,cond_true,call_some,hform,cond_false,push1 (by omega) (by omega) (by omega) ha,call_some,callE_go]
            exact h5 st q (by omega)
    · -- and,or
      have hb1:(c.f0 == 1)=false:=by simp; omega
      cases hform:(bif (bif (bif (decide ((c.f1.length:Int) > (0:Int))) then true else (c.f2 != (0:Int))) then true else (c.f3 != (0:Int))) then true else ((c.f4.length:Int) != 2)) with
      | true =>
        refine .inl ⟨4,((k+1:Nat):Int),by decide,rfl,fun st q hst hq=>?_⟩
        obtain ⟨q,rfl⟩:∃ r,q=r+1:=⟨q - 1,by omega⟩
        rw [round st q hst,hb,cond_false,hrange,cond_false,hb1,cond_false,call_some,hform,cond_true,callE_esc']
      | false =>
        have hl1:c.f4.length=2:=by
          simp only [or_cond,Bool.or_eq_false_iff,bne_eq_false_iff_eq] at hform
          omega
        have hf1:c.f1=[]:=by
          simp only [or_cond,Bool.or_eq_false_iff,decide_eq_false_iff_not] at hform
          exact List.eq_nil_of_length_eq_zero (by omega)
        obtain ⟨a,b,ha⟩:∃ a b,c.f4=[a,b]:=by
          match c.f4,hl1 with
          | [a,b],_=>exact ⟨a,b,rfl⟩
        have hsa:=hs.l a (by rw [ha]; simp)
        have hsb:=hs.l b (by rw [ha]; simp)
        obtain ⟨G,rfl⟩:∃ q,F=q+3:=⟨F - 3,by omega⟩
        rw [cond_false,prepress_checker_cond_L1,ha,decide_eq_true (by simp),cond_true,chk_pos (by simp),show (0:Int).toNat=0 from rfl,List.getD_cons_zero,wrap_succ (by omega)]
        rcases ih (d+1) (by omega) (by omega) a hsa (k+1) n (by omega) (by omega) with ⟨e,k',he,h1,h2⟩ | ⟨k',h1,h2,h3,h4,h5⟩
        · rw [h1,call_some]
          have hne:(e != 0)=true:=by simpa using he
          refine .inl ⟨e,k',he,by simp only [hne,cond_true,callE_esc'],fun st q hst hq=>?_⟩
          obtain ⟨q,rfl⟩:∃ r,q=r+1:=⟨q - 1,by omega⟩
          rw [round st q hst,hb,cond_false,hrange,cond_false,hb1,cond_false,call_some,hform,cond_false,push2 (by omega) (by omega) (by omega) ha,call_some,callE_go]
          exact h2 (st++[S_ref3_wait.mk b ((d+1:Nat):Int)]) q (by simp; omega) (by omega)
        · rw [h1,call_some,bne_self_eq_false,cond_false,show IntKind.i64.wrap ((0:Int)+1)=1 from rfl,prepress_checker_cond_L1,ha,decide_eq_true (by simp),cond_true,chk_pos (by simp),show (1:Int).toNat=1 from rfl,List.getD_cons_succ,List.getD_cons_zero,wrap_succ (by omega)]
          rcases ih (d+1) (by omega) (by omega) b hsb k' n (by omega) (by omega) with ⟨e,k'',he,g1,g2⟩ | ⟨k'',g1,g2,g3,g4,g5⟩
          · rw [g1,call_some]
            have hne:(e != 0)=true:=by simpa using he
            refine .inl ⟨e,k'',he,by simp only [hne,cond_true,callE_esc'],fun st q hst hq=>?_⟩
            obtain ⟨q,rfl⟩:∃ r,q=r+1+(k' - (k+1)):=⟨q - 1 - (k' - (k+1)),by omega⟩
            rw [show q+1+(k' - (k+1))=(q+(k' - (k+1)))+1 by omega,round st _ hst,hb,cond_false,hrange,cond_false,hb1,cond_false,call_some,hform,cond_false,push2 (by omega) (by omega) (by omega) ha,call_some,callE_go]
            rw [show ((k+2:Nat):Int)=((k+1+1:Nat):Int) from rfl,h5 (st++[S_ref3_wait.mk b ((d+1:Nat):Int)]) q (by simp; omega)]
            exact g2 st q (by omega) (by omega)
          · rw [g1,call_some]
            refine .inr ⟨k'',?_,by omega,g3,.inr (.inr ⟨hk1,a,b,ha,h4,g4,hf1⟩),fun st q hst=>?_⟩
            · rw [bne_self_eq_false,cond_false,show IntKind.i64.wrap ((1:Int)+1)=2 from rfl,prepress_checker_cond_L1,ha,decide_eq_false (by simp),cond_false,callE_go]
            · rw [show q+(k'' - k)=((q+(k'' - k'))+(k' - (k+1)))+1 by omega,round st _ hst,hb,cond_false,hrange,cond_false,hb1,cond_false,call_some,hform,cond_false,push2 (by omega) (by omega) (by omega) ha,call_some,callE_go]
              rw [show ((k+2:Nat):Int)=((k+1+1:Nat):Int) from rfl,h5 (st++[S_ref3_wait.mk b ((d+1:Nat):Int)]) _ (by simp; omega)]
              exact g5 st q (by omega)
/-- Both find the same first error of a condition. -/
theorem condError_eq {F:Nat} (hF:maxLen < F) {c:S_PrepressCond} (hs:SmC c) :
    (∃ e k':Int,e≠0∧prepress_checker_cond F c 1 0=some (e,k')∧ref3_condError F c=some e)∨(∃ k':Int,prepress_checker_cond F c 1 0=some (0,k')∧ref3_condError F c=some 0∧Good 12 c):=by
  have hmax:maxLen=9223372036854775807:=rfl
  unfold prepress_checker_cond ref3_condError
  rcases cond_eq hF 12 1 rfl (by omega) c hs 0 F (by omega) (by omega) with ⟨e,k',he,h1,h2⟩ | ⟨k',h1,h2,h3,h4,h5⟩
  · refine .inl ⟨e,k',he,h1,?_⟩
    have:=h2 [] F (by simp) (by omega)
    have h2':ref3_condError_L0 F F ([(S_ref3_wait.mk c (1:Int))]) (1:Int)=some (.esc e):=this
    rw [h2',callE_esc']
  · refine .inr ⟨k',h1,?_,h4⟩
    have:=h5 [] (F - k') (by simp)
    rw [show F - k'+(k' - 0)=F by omega] at this
    have h5':ref3_condError_L0 F F ([(S_ref3_wait.mk c (1:Int))]) (1:Int)=ref3_condError_L0 F (F - k') [] ((k'+1:Nat):Int):=this
    obtain ⟨G,hG⟩:∃ q,F - k'=q+1:=⟨F - k' - 1,by omega⟩
    rw [h5',hG,ref3_condError_L0,decide_eq_false (by simp),cond_false,callE_go]
end Go.Vm.PreG
