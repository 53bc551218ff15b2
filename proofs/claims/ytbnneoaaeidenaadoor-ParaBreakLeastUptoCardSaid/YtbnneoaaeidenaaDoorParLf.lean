/-
  para.Break: the whole table; the reference.
-/
import Derived.Test.YtbnneoaaeidenaaDoorParLe
namespace Go.Vm.ParM
def encC:Sol→Int×List Int×Bool
  | none=>(0,[],false)
  | some (r,t)=>(r,t.map fun (k:Nat)=>(k:Int),true)
theorem wrap_sub {n j:Nat} (h:j≤n) (hn:n≤4294967296):IntKind.i64.wrap ((n:Int) - (j:Int))=((n - j:Nat):Int):=by
  rw [wrap_id (by omega)]
  omega
section
variable (F:Nat) (hF:400≤F) (rs:List Part) (hw:OkW rs) (hA:Adj rs) (s:S_ParaShape) (hl:rs.length≤300) (hc:CostOk (costOf rs s) rs.length)
/-- The table so far. -/
def InvT (rs:List Part) (s:S_ParaShape) (d:Nat) (v7 v8:List Int):Prop :=
  v7.length=rs.length+1∧v8.length=rs.length∧(∀ j,j≤d→v7.getD (rs.length - d+j) 0=encB (optD (costOf rs s) rs.length (d - j)))∧∀ e,1≤e→e≤d→Heads v8 (rs.length - e) (optD (costOf rs s) rs.length e)
include hF hw hl hc in
theorem L0_ok:∀ (q d m:Nat) (v7 v8:List Int),d+q=rs.length→q < m→InvT rs s d v7 v8→∃ v7' v8',para_Break_L0 F s (rs.map toQ) m v7 v8 ((q:Int) - 1)=some (v7',v8')∧InvT rs s rs.length v7' v8'
  | q,d,0,v7,v8,_,h,_=>absurd h (Nat.not_lt_zero _)
  | 0,d,m+1,v7,v8,hd,_,hi=>by
    refine ⟨v7,v8,?_,?_⟩
    · unfold para_Break_L0
      rw [decide_eq_false (by omega)]
      rfl
    · rw [show d=rs.length by omega] at hi
      exact hi
  | q+1,d,m+1,v7,v8,hd,hm,hi=>by
    obtain ⟨h1,h2,h3,h4⟩:=hi
    have e1:((q+1:Nat):Int) - 1=(q:Int):=by omega
    obtain ⟨w2,w3,g1,g2,g3,g4,g5,g6⟩:=L2_ok F hF rs hw s hl hc (i:=q) (by omega) (tab (costOf rs s) rs.length d) (q+1) F none (v7.set q (-1)) v8 (by omega) (by rw [tab_length]; omega) (by rw [tab_length]; omega) (by simp; omega) h2
      (fun x hx=>by
        obtain ⟨j,hj⟩:=List.getElem?_of_mem hx
        have hjl:j < d+1:=by
          rcases Nat.lt_or_ge j (d+1) with h | h
          · exact h
          · rw [List.getElem?_eq_none (by rw [tab_length]; exact h)] at hj
            cases hj
        rw [tab_get _ _ d j (by omega)] at hj
        cases hj
        exact (tab_ok hc d (by omega) (d - j) (by omega)).mono (by omega)) (fun r t h=>by cases h) (getD_set (by omega) _)
      (fun j hj=>by
        rw [tab_length] at hj
        rw [getD_set_ne (by omega),show q+1+j=rs.length - d+j by omega,h3 j (by omega),List.getD_eq_getElem?_getD,tab_get _ _ d j (by omega)]
        rfl) (fun r k t h=>by cases h)
    have hopt:(cands (costOf rs s) q (q+1) (tab (costOf rs s) rs.length d)).foldl updL none=optD (costOf rs s) rs.length (d+1):=by
      have:optD (costOf rs s) rs.length (d+1)=(cands (costOf rs s) (rs.length - d - 1) (rs.length - d) (tab (costOf rs s) rs.length d)).foldl updL none:=rfl
      rw [this,show rs.length - d - 1=q by omega,show rs.length - d=q+1 by omega]
    rw [hopt] at g4 g6
    have hinv:InvT rs s (d+1) w2 w3:=by
      refine ⟨by rw [g2]; simp; omega,by omega,fun j hj=>?_,fun e he1 he2=>?_⟩
      · cases j with
        | zero =>
          rw [show rs.length - (d+1)+0=q by omega,g4]
          rfl
        | succ j =>
          rw [(g5 _ (by omega)).1,getD_set_ne (by omega),show rs.length - (d+1)+(j+1)=rs.length - d+j by omega,h3 j (by omega),show d+1 - (j+1)=d - j by omega]
      · rcases Nat.lt_or_ge e (d+1) with h | h
        · intro r k t hx
          rw [(g5 _ (by omega)).2]
          exact h4 e he1 (by omega) r k t hx
        · obtain rfl:e=d+1:=by omega
          rw [show rs.length - (d+1)=q by omega]
          exact g6
    obtain ⟨v7',v8',k1,k2⟩:=L0_ok q (d+1) m w2 w3 (by omega) (by omega) hinv
    refine ⟨v7',v8',?_,k2⟩
    unfold para_Break_L0
    rw [e1,decide_eq_true (by omega),cond_true,chk_in (by omega),nat_toNat,wrap_succ (by omega),g1,call_some,wrap_id (by omega)]
    exact k1
/-- The candidates from the longest line on. -/
theorem cands_rev (c:Nat→Nat→Int×Bool) (n d:Nat) (hd:d+1≤n):(cands c (n - d - 1) (n - d) (tab c n d)).reverse=(List.range (d+1)).map fun j=>candOf (c (n - d - 1) (n - j)) (n - j) (optD c n j):=by
  apply List.ext_getElem?
  intro j
  rcases Nat.lt_or_ge j (d+1) with h | h
  · rw [List.getElem?_reverse (by rw [cands_length,tab_length]; exact h),cands_get,cands_length,tab_length,tab_get c n d _ (by omega),List.getElem?_map,List.getElem?_range h]
    simp only [Option.map_some]
    rw [show n - d+(d+1 - 1 - j)=n - j by omega,show d - (d+1 - 1 - j)=j by omega]
  · rw [List.getElem?_eq_none (by rw [List.length_reverse,cands_length,tab_length]; exact h),List.getElem?_eq_none (by simp; exact h)]
include hF hA hl hc in
theorem cheap_loop {d m:Nat} (hd:d+1≤rs.length) (hrec:∀ j,j≤d→ref3_Cheapest_fuel F m (rs.map toP) ((rs.length - j:Nat):Int) s=some (encC (optD (costOf rs s) rs.length j))):∀ (q j n:Nat) (acc:Sol),j+q=d+1→q < n→SolOk 301 acc →
    ref3_Cheapest_L0 F (rs.map toP) ((rs.length - d - 1:Nat):Int) s (ref3_Cheapest_fuel F m) n (encC acc).1 (encC acc).2.2 (encC acc).2.1 (j:Int) =
      some ((encC (((List.range (d+1)).drop j).map (fun j=>candOf (costOf rs s (rs.length - d - 1) (rs.length - j)) (rs.length - j) (optD (costOf rs s) rs.length j)) |>.foldl updS acc)).1,(encC (((List.range (d+1)).drop j).map (fun j=>candOf (costOf rs s (rs.length - d - 1) (rs.length - j)) (rs.length - j) (optD (costOf rs s) rs.length j)) |>.foldl updS acc)).2.2,(encC (((List.range (d+1)).drop j).map (fun j=>candOf (costOf rs s (rs.length - d - 1) (rs.length - j)) (rs.length - j) (optD (costOf rs s) rs.length j)) |>.foldl updS acc)).2.1)
  | q,j,0,acc,_,h,_=>absurd h (Nat.not_lt_zero _)
  | 0,j,n+1,acc,hj,_,_=>by
    unfold ref3_Cheapest_L0
    rw [List.length_map,wrap_sub (by omega) (by omega),show rs.length - (rs.length - d - 1)=d+1 by omega,show j=d+1 by omega,dec_end,cond_false,List.drop_eq_nil_of_le (by simp)]
    rfl
  | q+1,j,n+1,acc,hj,hn,hacc=>by
    have hjd:j < d+1:=by omega
    have hcost:=hc (rs.length - d - 1) (rs.length - j) (by omega) (by omega)
    have hso:=tab_ok hc d (by omega) j (by omega)
    rw [List.drop_eq_getElem_cons (by simp; omega),List.getElem_range,List.map_cons,List.foldl_cons]
    have hca:=candOf_ok (k:=rs.length - j) hcost.1 hcost.2 (hso.mono (by omega:j≤300))
    have hS:SolOk 301 (updS acc (candOf (costOf rs s (rs.length - d - 1) (rs.length - j)) (rs.length - j) (optD (costOf rs s) rs.length j))):=by
      match acc,candOf (costOf rs s (rs.length - d - 1) (rs.length - j)) (rs.length - j) (optD (costOf rs s) rs.length j),hacc,hca with
      | a,none,ha,_=>exact ha
      | none,some y,_,hx=>exact hx
      | some a,some y,ha,hx =>
        show SolOk _ (if y.1 < a.1 then some y else some a)
        split
        · exact hx
        · exact ha
    rw [← cheap_loop hd hrec q (j+1) n _ (by omega) (by omega) hS]
    conv=>lhs; unfold ref3_Cheapest_L0
    rw [List.length_map,wrap_sub (show rs.length - d - 1≤rs.length by omega) (by omega),show rs.length - (rs.length - d - 1)=d+1 by omega,dec_lt hjd,cond_true,wrap_sub (show j≤rs.length by omega) (by omega),wrap_succ (by omega),linecost_eq F hF rs hA s (by omega) (by omega) hl,call_some]
    cases hok:(costOf rs s (rs.length - d - 1) (rs.length - j)).2 with
    | false =>
      have:candOf (costOf rs s (rs.length - d - 1) (rs.length - j)) (rs.length - j) (optD (costOf rs s) rs.length j)=none:=by
        cases optD (costOf rs s) rs.length j <;> simp [candOf,hok]
      rw [this]
      rfl
    | true =>
      rw [Bool.not_true,cond_false,hrec j (by omega),call_some]
      match hx:optD (costOf rs s) rs.length j,hso with
      | none,_=>rfl
      | some (r,t),hso =>
        obtain ⟨g1,g2,g3⟩:=hso r t rfl
        have hcand:candOf (costOf rs s (rs.length - d - 1) (rs.length - j)) (rs.length - j) (some (r,t))=some ((costOf rs s (rs.length - d - 1) (rs.length - j)).1+r,(rs.length - j) :: t):=by simp [candOf,hok]
        have hwr:IntKind.i64.wrap ((costOf rs s (rs.length - d - 1) (rs.length - j)).1+(encC (some (r,t))).1)=(costOf rs s (rs.length - d - 1) (rs.length - j)).1+r:=wrap_id (x:=(costOf rs s (rs.length - d - 1) (rs.length - j)).1+r) (by omega)
        have hchk:([((rs.length - j:Nat):Int)]).length+(encC (some (r,t))).2.1.length≤4294967296:=by
          show 1+(t.map fun (k:Nat)=>(k:Int)).length≤_
          rw [List.length_map]
          omega
        rw [hcand,hwr,chk_pos hchk,lett_eq]
        match acc with
        | none=>rfl
        | some (a1,a2) =>
          have e:updS (some (a1,a2)) (some ((costOf rs s (rs.length - d - 1) (rs.length - j)).1+r,(rs.length - j) :: t))=if (costOf rs s (rs.length - d - 1) (rs.length - j)).1+r < a1 then some ((costOf rs s (rs.length - d - 1) (rs.length - j)).1+r,(rs.length - j) :: t) else some (a1,a2):=rfl
          rw [e]
          by_cases h:(costOf rs s (rs.length - d - 1) (rs.length - j)).1+r < a1
          · rw [if_pos h,show decide ((costOf rs s (rs.length - d - 1) (rs.length - j)).1+r < (encC (some (a1,a2))).1)=true from decide_eq_true h]
            rfl
          · rw [if_neg h,show decide ((costOf rs s (rs.length - d - 1) (rs.length - j)).1+r < (encC (some (a1,a2))).1)=false from decide_eq_false h]
            rfl
include hF hA hl hc in
theorem cheap_ok:∀ (m d:Nat),d≤rs.length→d < m→ref3_Cheapest_fuel F m (rs.map toP) ((rs.length - d:Nat):Int) s=some (encC (optD (costOf rs s) rs.length d))
  | 0,d,_,h=>absurd h (Nat.not_lt_zero _)
  | m+1,0,_,_=>by
    unfold ref3_Cheapest_fuel ref3_Cheapest_body
    rw [List.length_map,Nat.sub_zero]
    simp [optD,tab,encC]
  | m+1,d+1,hd,hm=>by
    have hrec:∀ j,j≤d→ref3_Cheapest_fuel F m (rs.map toP) ((rs.length - j:Nat):Int) s=some (encC (optD (costOf rs s) rs.length j)):=fun j hj=>cheap_ok m j (by omega) (by omega)
    have:=cheap_loop F hF rs hA s hl hc (by omega) hrec (d+1) 0 F none (by omega) (by omega) (fun r t h=>by cases h)
    rw [List.drop_zero,← cands_rev (costOf rs s) rs.length d (by omega),← fold_rev] at this
    have hopt:(cands (costOf rs s) (rs.length - d - 1) (rs.length - d) (tab (costOf rs s) rs.length d)).foldl updL none=optD (costOf rs s) rs.length (d+1):=rfl
    rw [hopt] at this
    unfold ref3_Cheapest_fuel ref3_Cheapest_body
    have hne:(((rs.length - (d+1):Nat):Int) == ((rs.map toP).length:Int))=false:=by
      rw [List.length_map]
      simp
      omega
    rw [hne,cond_false,show rs.length - (d+1)=rs.length - d - 1 by omega]
    have e0:ref3_Cheapest_L0 F (rs.map toP) ((rs.length - d - 1:Nat):Int) s (ref3_Cheapest_fuel F m) F 0 false [] 0=_:=this
    rw [e0]
    rfl
end
end Go.Vm.ParM
