/-
  para.Break: the cheapest lines,as a table from the end on.
-/
import Derived.Test.YtbnneoaaeidenaaDoorParLc
namespace Go.Vm.ParM
abbrev Sol:=Option (Int×List Nat)
def candOf (c:Int×Bool) (k:Nat):Sol→Sol
  | none=>none
  | some (r,t)=>bif c.2 then some (c.1+r,k :: t) else none
def updL (acc x:Sol):Sol:=match x with
  | none=>acc
  | some y=>match acc with
    | none=>some y
    | some a=>if y.1≤a.1 then some y else some a
def updS (acc x:Sol):Sol:=match x with
  | none=>acc
  | some y=>match acc with
    | none=>some y
    | some a=>if y.1 < a.1 then some y else some a
theorem updL_last:∀ (L:List Sol) (x:Sol),L.foldl updL x=updS (L.foldl updL none) x
  | [],none=>rfl
  | [],some a=>rfl
  | y :: L,x=>by
    rw [List.foldl_cons,List.foldl_cons,updL_last L (updL x y),updL_last L (updL none y)]
    cases x with
    | none => 
      cases y <;> simp [updL] <;> cases L.foldl updL none <;> rfl
    | some a =>
      cases y with
      | none=>cases h:L.foldl updL none <;> simp [updL,updS]
      | some b =>
        have e1:updL (some a) (some b)=if b.1≤a.1 then some b else some a:=rfl
        have e2:updL none (some b)=some b:=rfl
        have e3:∀ p q:Int×List Nat,updS (some p) (some q)=if q.1 < p.1 then some q else some p:=fun _ _=>rfl
        have e4:∀ q:Int×List Nat,updS none (some q)=some q:=fun _=>rfl
        rw [e1,e2]
        generalize L.foldl updL none=z
        cases z with
        | none =>
          rw [e4 b,e3]
          by_cases h:b.1≤a.1
          · rw [if_pos h,if_neg (by omega),e4]
          · rw [if_neg h,if_pos (by omega),e4]
        | some d =>
          rw [e3 d b]
          by_cases h:b.1≤a.1
          · rw [if_pos h,e3]
            by_cases h2:b.1 < d.1
            · rw [if_pos h2,e3,if_neg (by omega)]
            · rw [if_neg h2,e3,if_neg (by omega)]
          · rw [if_neg h,e3]
            by_cases h2:b.1 < d.1
            · rw [if_pos h2,e3,if_pos (by omega),if_pos (by omega)]
            · rw [if_neg h2,e3]
theorem fold_rev (L:List Sol):L.foldl updL none=L.reverse.foldl updS none:=by
  induction L with
  | nil=>rfl
  | cons x L ih =>
    rw [List.reverse_cons,List.foldl_append,← ih,List.foldl_cons]
    have:updL none x=x:=by cases x <;> rfl
    rw [this,updL_last]
    rfl
theorem fold_mem:∀ (L:List Sol) (acc:Sol) (y:Int×List Nat),L.foldl updL acc=some y→acc=some y∨some y∈L
  | [],acc,y,h=>.inl h
  | x :: L,acc,y,h=>by
    rw [List.foldl_cons] at h
    rcases fold_mem L _ y h with h1 | h1
    · cases x with
      | none=>exact .inl h1
      | some b =>
        cases acc with
        | none=>exact .inr (by rw [← h1]; exact List.mem_cons_self ..)
        | some a =>
          simp only [updL] at h1
          split at h1
          · exact .inr (by rw [← h1]; exact List.mem_cons_self ..)
          · exact .inl h1
    · exact .inr (List.mem_cons_of_mem _ h1)
/-- The candidates of a part,over the table from its successor on. -/
def cands (c:Nat→Nat→Int×Bool) (i:Nat):Nat→List Sol→List Sol
  | _,[]=>[]
  | k,x :: r=>candOf (c i k) k x :: cands c i (k+1) r
/-- The table of the last d parts and of the end. -/
def tab (c:Nat→Nat→Int×Bool) (n:Nat):Nat→List Sol
  | 0=>[some (0,[])]
  | d+1=>(cands c (n - d - 1) (n - d) (tab c n d)).foldl updL none :: tab c n d
theorem tab_length (c:Nat→Nat→Int×Bool) (n:Nat):∀ d,(tab c n d).length=d+1
  | 0=>rfl
  | d+1=>by rw [tab,List.length_cons,tab_length c n d]
def optD (c:Nat→Nat→Int×Bool) (n d:Nat):Sol:=(tab c n d).headD none
theorem tab_get (c:Nat→Nat→Int×Bool) (n:Nat):∀ (d j:Nat),j≤d→(tab c n d)[j]? = some (optD c n (d - j))
  | 0,0,_=>rfl
  | d+1,0,_=>rfl
  | d+1,j+1,h=>by
    rw [tab,List.getElem?_cons_succ,tab_get c n d j (by omega),show d+1 - (j+1)=d - j by omega]
theorem cands_get (c:Nat→Nat→Int×Bool) (i:Nat):∀ (l:List Sol) (k j:Nat),(cands c i k l)[j]? = (l[j]?).map fun x=>candOf (c i (k+j)) (k+j) x
  | [],_,_=>by simp [cands]
  | x :: l,k,0=>by simp [cands]
  | x :: l,k,j+1=>by
    rw [cands,List.getElem?_cons_succ,List.getElem?_cons_succ,cands_get c i l (k+1) j,show k+1+j=k+(j+1) by omega]
theorem cands_length (c:Nat→Nat→Int×Bool) (i:Nat):∀ (l:List Sol) (k:Nat),(cands c i k l).length=l.length
  | [],_=>rfl
  | x :: l,k=>by rw [cands,List.length_cons,List.length_cons,cands_length c i l (k+1)]
/-- The costs lie in reach. -/
def CostOk (c:Nat→Nat→Int×Bool) (n:Nat):Prop:=∀ i k,i < k→k≤n→0≤(c i k).1∧(c i k).1≤10000000000000
def SolOk (d:Nat) (x:Sol):Prop:=∀ r t,x=some (r,t)→0≤r∧r≤(t.length:Int) * 10000000000000∧t.length≤d
theorem candOf_ok {c:Int×Bool} {k d:Nat} {x:Sol} (h0:0≤c.1) (h1:c.1≤10000000000000) (hx:SolOk d x):SolOk (d+1) (candOf c k x):=by
  intro r t h
  match x,hx,h with
  | some (r',t'),hx,h =>
    unfold candOf at h
    cases hc:c.2 with
    | false=>rw [hc] at h; cases h
    | true =>
      rw [hc] at h
      simp only [cond_true,Option.some.injEq,Prod.mk.injEq] at h
      obtain ⟨rfl,rfl⟩:=h
      obtain ⟨g1,g2,g3⟩:=hx r' t' rfl
      simp only [List.length_cons]
      omega
theorem tab_ok {c:Nat→Nat→Int×Bool} {n:Nat} (hc:CostOk c n):∀ d,d≤n→∀ e,e≤d→SolOk e (optD c n e)
  | 0,_,e,he=>by
    obtain rfl:e=0:=by omega
    intro r t h
    simp [optD,tab] at h
    obtain ⟨rfl,rfl⟩:=h
    simp
  | d+1,hd,e,he=>by
    rcases Nat.lt_or_ge e (d+1) with h | h
    · exact tab_ok hc d (by omega) e (by omega)
    · obtain rfl:e=d+1:=by omega
      intro r t hr
      have hr':(cands c (n - d - 1) (n - d) (tab c n d)).foldl updL none=some (r,t):=hr
      rcases fold_mem _ _ _ hr' with h1 | h1
      · cases h1
      · obtain ⟨j,hj⟩:=List.getElem?_of_mem h1
        rw [cands_get] at hj
        have hjl:j < d+1:=by
          rcases Nat.lt_or_ge j (d+1) with h | h
          · exact h
          · rw [List.getElem?_eq_none (by rw [tab_length]; exact h)] at hj
            cases hj
        rw [tab_get c n d j (by omega)] at hj
        simp only [Option.map_some,Option.some.injEq] at hj
        have hk:=hc (n - d - 1) (n - d+j) (by omega) (by omega)
        have:=candOf_ok (k:=n - d+j) hk.1 hk.2 (tab_ok hc d (by omega) (d - j) (by omega)) r t hj
        exact ⟨this.1,this.2.1,by omega⟩
/-- A solution's first end,and the solution from there on. -/
theorem opt_next {c:Nat→Nat→Int×Bool} {n d:Nat} (hd:d+1≤n) {r:Int} {t:List Nat} (h:optD c n (d+1)=some (r,t)):∃ j t' r',j≤d∧t=(n - d+j) :: t'∧optD c n (d - j)=some (r',t'):=by
  have hr':(cands c (n - d - 1) (n - d) (tab c n d)).foldl updL none=some (r,t):=h
  rcases fold_mem _ _ _ hr' with h1 | h1
  · cases h1
  · obtain ⟨j,hj⟩:=List.getElem?_of_mem h1
    rw [cands_get] at hj
    have hjl:j < d+1:=by
      rcases Nat.lt_or_ge j (d+1) with h | h
      · exact h
      · rw [List.getElem?_eq_none (by rw [tab_length]; exact h)] at hj
        cases hj
    rw [tab_get c n d j (by omega)] at hj
    simp only [Option.map_some,Option.some.injEq] at hj
    match hx:optD c n (d - j),hj with
    | some (r',t'),hj =>
      unfold candOf at hj
      cases hcc:(c (n - d - 1) (n - d+j)).2 with
      | false=>rw [hcc] at hj; cases hj
      | true =>
        rw [hcc] at hj
        simp only [cond_true,Option.some.injEq,Prod.mk.injEq] at hj
        exact ⟨j,t',r',by omega,hj.2.symm,hx⟩
end Go.Vm.ParM
