/-
  PREPRESS,PLAIN,part 8: what facts tell of a condition; the second law.
-/
import Derived.Test.YtcjnhgcbefkbcaaGreatDoorPreLg
namespace Go.Vm.PreG
/-- All names that a condition mentions are known. -/
inductive Known (l:List S_PrepressFact):S_PrepressCond→Prop
  | mk {c:S_PrepressCond} (h:∀ t∈c.f1,(look l t.f1).isSome=true) (hk:∀ x∈c.f4,Known l x):Known l c
theorem Known.t {l:List S_PrepressFact} {c:S_PrepressCond} (h:Known l c):∀ t∈c.f1,(look l t.f1).isSome=true:=by cases h; assumption
theorem Known.k {l:List S_PrepressFact} {c:S_PrepressCond} (h:Known l c):∀ x∈c.f4,Known l x:=by cases h; assumption
theorem sumT_known {l:List S_PrepressFact}:∀ {r:List S_PrepressTerm} {s:Int},(∀ t∈r,(look l t.f1).isSome=true)→∃ z,sumT l r s=some z
  | [],s,_=>⟨s,rfl⟩
  | t :: r,s,h=>by
    have h1:=h t (by simp)
    rw [sumT]
    cases e:look l t.f1 with
    | none=>rw [e] at h1; cases h1
    | some v=>exact sumT_known fun x hx=>h x (by simp [hx])
def cmpB (k s than:Int):Bool:=bif k == 0 then decide (s < than) else bif k == 1 then decide (s≤than) else bif k == 2 then s == than else bif k == 3 then s != than else bif k == 4 then decide (s ≥ than) else decide (s > than)
theorem cmpB_list {k s than y:Int} (hk:0≤k∧k≤5) (hy:y=bif decide (s < than) then -1 else bif decide (s > than) then 1 else 0):([(decide (y < (0:Int))),(decide (y≤(0:Int))),(y == (0:Int)),(y != (0:Int)),(decide (y ≥ (0:Int))),(decide (y > (0:Int)))]).getD k.toNat false=cmpB k s than:=by
  have hk2:k=0∨k=1∨k=2∨k=3∨k=4∨k=5:=by omega
  rcases Int.lt_trichotomy s than with h | h | h
  · rw [decide_eq_true h,cond_true] at hy
    subst hy
    have hne:(s == than)=false:=by simp; omega
    rcases hk2 with rfl | rfl | rfl | rfl | rfl | rfl <;> simp [cmpB,bne,hne] <;> omega
  · subst h
    rw [decide_eq_false (by omega),cond_false,cond_false] at hy
    subst hy
    rcases hk2 with rfl | rfl | rfl | rfl | rfl | rfl <;> simp [cmpB]
  · rw [decide_eq_false (show ¬ s < than by omega),cond_false,decide_eq_true (show s > than by omega),cond_true] at hy
    subst hy
    have hne:(s == than)=false:=by simp; omega
    rcases hk2 with rfl | rfl | rfl | rfl | rfl | rfl <;> simp [cmpB,bne,hne] <;> omega
def tv (l:List S_PrepressFact):Nat→S_PrepressCond→Int
  | 0,_=>2
  | m+1,c =>
    bif c.f0 == 1 then (bif tv l m (c.f4.getD 0 c0) == 0 then 1 else bif tv l m (c.f4.getD 0 c0) == 1 then 0 else 2)
    else bif c.f0 == 2 then (bif (tv l m (c.f4.getD 0 c0) == 0 || tv l m (c.f4.getD 1 c0) == 0) then 0 else bif (tv l m (c.f4.getD 0 c0) == 2 || tv l m (c.f4.getD 1 c0) == 2) then 2 else 1)
    else bif c.f0 == 3 then (bif (tv l m (c.f4.getD 0 c0) == 1 || tv l m (c.f4.getD 1 c0) == 1) then 1 else bif (tv l m (c.f4.getD 0 c0) == 2 || tv l m (c.f4.getD 1 c0) == 2) then 2 else 0)
    else match sumT l c.f1 0 with
      | none=>2
      | some s=>bif cmpB c.f2 s c.f3 then 1 else 0
theorem tv_range (l:List S_PrepressFact):∀ (m:Nat) (c:S_PrepressCond),tv l m c=0∨tv l m c=1∨tv l m c=2
  | 0,_=>.inr (.inr rfl)
  | m+1,c=>by
    rw [tv]
    cases c.f0 == 1
    · cases c.f0 == 2
      · cases c.f0 == 3
        · simp only [cond_false]
          cases sumT l c.f1 0 with
          | none=>simp
          | some s=>cases h:cmpB c.f2 s c.f3 <;> simp [h]
        · simp only [cond_false,cond_true]
          cases (tv l m (c.f4.getD 0 c0) == 1 || tv l m (c.f4.getD 1 c0) == 1)
          · cases (tv l m (c.f4.getD 0 c0) == 2 || tv l m (c.f4.getD 1 c0) == 2) <;> simp
          · simp
      · simp only [cond_false,cond_true]
        cases (tv l m (c.f4.getD 0 c0) == 0 || tv l m (c.f4.getD 1 c0) == 0)
        · cases (tv l m (c.f4.getD 0 c0) == 2 || tv l m (c.f4.getD 1 c0) == 2) <;> simp
        · simp
    · simp only [cond_true]
      cases tv l m (c.f4.getD 0 c0) == 0
      · cases tv l m (c.f4.getD 0 c0) == 1 <;> simp
      · simp
theorem tv_known {l:List S_PrepressFact}:∀ (m:Nat) (c:S_PrepressCond),Good m c→Known l c→tv l m c≠2
  | 0,_,h,_=>absurd h (by simp [Good])
  | m+1,c,h,hk=>by
    rw [tv]
    rcases h with ⟨h0,hc⟩ | ⟨h1,a,ha,hga,_⟩ | ⟨h1,a,b,ha,hga,hgb,_⟩
    · rw [h0]
      obtain ⟨z,hz⟩:=sumT_known (l:=l) (r:=c.f1) (s:=0) hk.t
      simp only [hz]
      cases h:cmpB c.f2 z c.f3 <;> simp
    · have h2:=tv_known m a hga (hk.k a (by rw [ha]; simp))
      rw [h1,ha,List.getD_cons_zero]
      rcases tv_range l m a with h | h | h
      · rw [h]; exact show (1:Int)≠2 by decide
      · rw [h]; exact show (0:Int)≠2 by decide
      · exact absurd h h2
    · have h2:=tv_known m a hga (hk.k a (by rw [ha]; simp))
      have h3:=tv_known m b hgb (hk.k b (by rw [ha]; simp))
      rw [ha,List.getD_cons_zero,List.getD_cons_succ,List.getD_cons_zero]
      have e1:(tv l m a == 2)=false:=by simpa using h2
      have e2:(tv l m b == 2)=false:=by simpa using h3
      rw [e1,e2]
      rcases h1 with h1 | h1
      · rw [h1]
        cases h:(tv l m a == 0 || tv l m b == 0) <;> simp
      · rw [h1]
        cases h:(tv l m a == 1 || tv l m b == 1) <;> simp
theorem truth_eq {F:Nat} (hF:maxLen < F) {l:List S_PrepressFact} (hok:FactsOk l):∀ (m:Nat) (c:S_PrepressCond) (n:Nat),Good m c→m≤n→prepress_truth_fuel F n c l=some (tv l m c):=by
  have hmax:maxLen=9223372036854775807:=rfl
  intro m
  induction m with
  | zero=>intro c n h; exact absurd h (by simp [Good])
  | succ m ih =>
    intro c n h hn
    obtain ⟨n,rfl⟩:∃ q,n=q+1:=⟨n - 1,by omega⟩
    rw [prepress_truth_fuel,prepress_truth_body,tv]
    rcases h with ⟨h0,hc⟩ | ⟨h1,a,ha,hga,_⟩ | ⟨h1,a,b,ha,hga,hgb,_⟩
    · have hs:=truth_L2_eq hF (c:=c) hok hc.many c.f1.length 0 F 0 (by omega) (by have:=hc.many; omega)
      have hs':prepress_truth_L2 F c l F (0:Int) (0:Int)=some (match sumT l c.f1 0 with | none=>.esc 2 | some z=>.go z):=hs
      rw [h0,hs']
      have hz:(bif (0:Int) == 2 then some ((0:Int) == 2) else some ((0:Int) == 3))=some false:=rfl
      rw [show ((0:Int) == 1)=false from rfl,cond_false,hz,call_some,cond_false,show ((0:Int) == 2)=false from rfl,show ((0:Int) == 3)=false from rfl,cond_false,cond_false,cond_false]
      cases sumT l c.f1 0 with
      | none=>rfl
      | some z =>
        simp only [callE_go]
        rw [compare_int,call_some,chk_pos (by have:=hc.kind; simp; omega),lett_eq,cmpB_list hc.kind rfl]
        cases cmpB c.f2 z c.f3 <;> rfl
    · have h2:=ih a n hga (by omega)
      rw [h1,show ((1:Int) == 1)=true from rfl,cond_true,cond_true,ha,chk_pos (by simp),show (0:Int).toNat=0 from rfl,List.getD_cons_zero,h2,call_some]
      rcases tv_range l m a with h | h | h <;> rw [h] <;> rfl
    · have h2:=ih a n hga (by omega)
      have h4:=ih b n hgb (by omega)
      have hb:(c.f0 == 1)=false:=by simp; omega
      rw [hb,cond_false,cond_false,ha]
      rcases h1 with h1 | h1
      · rw [h1]
        rw [show ((2:Int) == 3)=false from rfl,show ((2:Int) == 2)=true from rfl,cond_true,call_some,cond_true,cond_false,cond_true,call_some,chk_pos (by simp),show (0:Int).toNat=0 from rfl,List.getD_cons_zero,h2,call_some,chk_pos (by simp),show (1:Int).toNat=1 from rfl,List.getD_cons_succ,List.getD_cons_zero,h4,call_some]
        rcases tv_range l m a with h | h | h <;> rcases tv_range l m b with h' | h' | h' <;> rw [h,h'] <;> rfl
      · rw [h1]
        rw [show ((3:Int) == 3)=true from rfl,show ((3:Int) == 2)=false from rfl,cond_false,call_some,cond_true,cond_true,call_some,chk_pos (by simp),show (0:Int).toNat=0 from rfl,List.getD_cons_zero,h2,call_some,chk_pos (by simp),show (1:Int).toNat=1 from rfl,List.getD_cons_succ,List.getD_cons_zero,h4,call_some]
        rcases tv_range l m a with h | h | h <;> rcases tv_range l m b with h' | h' | h' <;> rw [h,h'] <;> rfl
theorem Can_eq {F:Nat} (hF:maxLen < F) {l:List S_PrepressFact} (h64:l.length≤4294967296) (hsrt:l.Pairwise (fun a b=>Op.bytesLess a.f0 b.f0=true)):∀ (m:Nat) (c:S_PrepressCond) (n:Nat) (q:Bool),Good m c→m≤n→ref3_Can_fuel F n c l q=some (tv l m c == bif q then 0 else 1):=by
  have hmax:maxLen=9223372036854775807:=rfl
  intro m
  induction m with
  | zero=>intro c n q h; exact absurd h (by simp [Good])
  | succ m ih =>
    intro c n q h hn
    obtain ⟨n,rfl⟩:∃ q,n=q+1:=⟨n - 1,by omega⟩
    rw [ref3_Can_fuel,ref3_Can_body,tv]
    rcases h with ⟨h0,hc⟩ | ⟨h1,a,ha,hga,_⟩ | ⟨h1,a,b,ha,hga,hgb,_⟩
    · have hs:=Can_L1_eq hF (c:=c) h64 hsrt hc.many c.f1.length 0 F 0 (by omega) (by have:=hc.many; omega)
      have hs':ref3_Can_L1 F c l F (0:Int) (0:Int)=some (match sumT l c.f1 0 with | none=>.esc false | some z=>.go z):=hs
      rw [h0,hs']
      have hz:(bif (0:Int) == 2 then some ((0:Int) == 2) else some ((0:Int) == 3))=some false:=rfl
      rw [show ((0:Int) == 1)=false from rfl,cond_false,hz,call_some,cond_false,show ((0:Int) == 2)=false from rfl,show ((0:Int) == 3)=false from rfl,cond_false,cond_false,cond_false]
      cases sumT l c.f1 0 with
      | none=>cases q <;> rfl
      | some z =>
        simp only [callE_go]
        have hg:(bif (c.f2 == (0:Int)) then some (decide (z < c.f3)) else bif (c.f2 == (1:Int)) then some (decide (z≤c.f3)) else bif (c.f2 == (2:Int)) then some (z == c.f3) else bif (c.f2 == (3:Int)) then some (z != c.f3) else bif (c.f2 == (4:Int)) then some (decide (z ≥ c.f3)) else some (decide (z > c.f3)))=some (cmpB c.f2 z c.f3):=by
          unfold cmpB
          cases c.f2 == 0 <;> cases c.f2 == 1 <;> cases c.f2 == 2 <;> cases c.f2 == 3 <;> cases c.f2 == 4 <;> rfl
        rw [hg,call_some]
        cases cmpB c.f2 z c.f3 <;> cases q <;> rfl
    · have h2:=ih a n (!q) hga (by omega)
      rw [h1,show ((1:Int) == 1)=true from rfl,cond_true,cond_true,ha,chk_pos (by simp),show (0:Int).toNat=0 from rfl,List.getD_cons_zero,h2,call_some]
      rcases tv_range l m a with h | h | h <;> rw [h] <;> cases q <;> rfl
    · have h2:=ih a n q hga (by omega)
      have h4:=ih b n q hgb (by omega)
      have hb:(c.f0 == 1)=false:=by simp; omega
      rw [hb,cond_false,cond_false,ha]
      rcases h1 with h1 | h1
      · rw [h1]
        rw [show ((2:Int) == 2)=true from rfl,cond_true,call_some,cond_true,cond_true,chk_pos (by simp),show (0:Int).toNat=0 from rfl,List.getD_cons_zero,h2,call_some,chk_pos (by simp),show (1:Int).toNat=1 from rfl,List.getD_cons_succ,List.getD_cons_zero,h4,call_some]
        rcases tv_range l m a with h | h | h <;> rcases tv_range l m b with h' | h' | h' <;> rw [h,h'] <;> cases q <;> rfl
      · rw [h1]
        rw [show ((3:Int) == 2)=false from rfl,show ((3:Int) == 3)=true from rfl,cond_false,call_some,cond_true,cond_false,cond_true,chk_pos (by simp),show (0:Int).toNat=0 from rfl,List.getD_cons_zero,h2,call_some,chk_pos (by simp),show (1:Int).toNat=1 from rfl,List.getD_cons_succ,List.getD_cons_zero,h4,call_some]
        rcases tv_range l m a with h | h | h <;> rcases tv_range l m b with h' | h' | h' <;> rw [h,h'] <;> cases q <;> rfl
theorem told_eq {F:Nat} (hF:maxLen < F) {l:List S_PrepressFact} (h64:l.length≤4294967296) (hsrt:l.Pairwise (fun a b=>Op.bytesLess a.f0 b.f0=true)) {c:S_PrepressCond} (h:Good 12 c):ref3_Told F c l=some (tv l 12 c):=by
  have hmax:maxLen=9223372036854775807:=rfl
  unfold ref3_Told ref3_Can
  rw [Can_eq hF h64 hsrt 12 c F false h (by omega),call_some,Can_eq hF h64 hsrt 12 c F true h (by omega)]
  rcases tv_range l 12 c with h | h | h <;> rw [h] <;> rfl
end Go.Vm.PreG
