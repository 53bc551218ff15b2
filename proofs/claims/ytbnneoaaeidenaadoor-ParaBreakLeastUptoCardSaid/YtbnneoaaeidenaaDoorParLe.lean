/-
  para.Break: the program's table; the reference's recursion.
-/
import Derived.Test.YtbnneoaaeidenaaDoorParLd
namespace Go.Vm.ParM
def encB:Sol→Int
  | none => -1
  | some y=>y.1
def Heads (v3:List Int) (i:Nat) (x:Sol):Prop:=∀ r k t,x=some (r,k :: t)→v3.getD i 0=(k:Int)
theorem getD_set {l:List Int} {i:Nat} (h:i < l.length) (v:Int):(l.set i v).getD i 0=v:=by
  rw [List.getD_eq_getElem?_getD,List.getElem?_set_self h]
  rfl
theorem getD_set_ne {l:List Int} {i j:Nat} (h:i≠j) (v:Int):(l.set i v).getD j 0=l.getD j 0:=by
  rw [List.getD_eq_getElem?_getD,List.getD_eq_getElem?_getD,List.getElem?_set_ne h]
theorem SolOk.mono {a b:Nat} {x:Sol} (h:SolOk a x) (hab:a≤b):SolOk b x:=fun r t hx=>⟨(h r t hx).1,(h r t hx).2.1,Nat.le_trans (h r t hx).2.2 hab⟩
theorem updL_ok {d:Nat} {a x:Sol} (ha:SolOk d a) (hx:SolOk d x):SolOk d (updL a x):=by
  match a,x,ha,hx with
  | a,none,ha,_=>exact ha
  | none,some y,_,hx=>exact hx
  | some a,some y,ha,hx =>
    show SolOk d (if y.1≤a.1 then some y else some a)
    split
    · exact hx
    · exact ha
section
variable (F:Nat) (hF:400≤F) (rs:List Part) (hw:OkW rs) (s:S_ParaShape) (hl:rs.length≤300) (hc:CostOk (costOf rs s) rs.length)
include hF hw hl hc
/-- One row of the table,by the program. -/
theorem L2_ok {i:Nat} (hi:i < rs.length):∀ (X:List Sol) (k n:Nat) (acc:Sol) (v2 v3:List Int),i < k→k+X.length=rs.length+1→X.length < n→v2.length=rs.length+1→v3.length=rs.length→(∀ x∈X,SolOk 300 x)→SolOk 301 acc→v2.getD i 0=encB acc →
    (∀ j,j < X.length→v2.getD (k+j) 0=encB (X.getD j none))→Heads v3 i acc →
    ∃ v2' v3',para_Break_L2 F s (rs.map toQ) (i:Int) n v2 v3 (k:Int)=some (v2',v3')∧v2'.length=v2.length∧v3'.length=v3.length∧v2'.getD i 0=encB ((cands (costOf rs s) i k X).foldl updL acc)∧(∀ j,j≠i→v2'.getD j 0=v2.getD j 0∧v3'.getD j 0=v3.getD j 0)∧Heads v3' i ((cands (costOf rs s) i k X).foldl updL acc)
  | X,k,0,acc,v2,v3,_,_,h,_,_,_,_,_,_,_=>absurd h (Nat.not_lt_zero _)
  | [],k,n+1,acc,v2,v3,hik,hkl,hn,h2,h3,hX,ha,hb,hbs,hh=>by
    have hk:¬ (k:Int)≤((rs.map toQ).length:Int):=by rw [List.length_map]; simp at hkl; omega
    refine ⟨v2,v3,?_,rfl,rfl,hb,fun j _=>⟨rfl,rfl⟩,hh⟩
    unfold para_Break_L2
    rw [decide_eq_false hk]
    rfl
  | x :: X,k,n+1,acc,v2,v3,hik,hkl,hn,h2,h3,hX,ha,hb,hbs,hh=>by
    simp only [List.length_cons] at hkl hn
    have hk:(k:Int)≤((rs.map toQ).length:Int):=by rw [List.length_map]; omega
    have hkn:k≤rs.length:=by omega
    have hx:=hX x (by simp)
    have hbk:v2.getD k 0=encB x:=by simpa using hbs 0 (by simp)
    have hcost:=hc i k hik hkn
    have hk2:k < v2.length:=by omega
    have hi2:i < v2.length:=by omega
    have hi3:i < v3.length:=by omega
    -- what the round comes to
    have step:∃ w2 w3,w2.length=v2.length∧w3.length=v3.length∧w2.getD i 0=encB (updL acc (candOf (costOf rs s i k) k x))∧(∀ j,j≠i→w2.getD j 0=v2.getD j 0∧w3.getD j 0=v3.getD j 0)∧Heads w3 i (updL acc (candOf (costOf rs s i k) k x)) ∧
        para_Break_L2 F s (rs.map toQ) (i:Int) (n+1) v2 v3 (k:Int)=para_Break_L2 F s (rs.map toQ) (i:Int) n w2 w3 ((k+1:Nat):Int):=by
      have hun:para_Break_L2 F s (rs.map toQ) (i:Int) (n+1) v2 v3 (k:Int)=call (bif (bif (!(costOf rs s i k).2) then true else (decide (encB x < 0))) then some (v2,v3) else
          lett ((bif (decide (encB acc < 0)) then true else (decide (IntKind.i64.wrap ((costOf rs s i k).1+encB x)≤encB acc)))) fun z1=>bif z1 then some (v2.set i (IntKind.i64.wrap ((costOf rs s i k).1+encB x)),v3.set i (k:Int)) else some (v2,v3))
          fun (v5,v6)=>para_Break_L2 F s (rs.map toQ) (i:Int) n v5 v6 ((k+1:Nat):Int):=by
        rw [para_Break_L2]
        rw [decide_eq_true hk,cond_true,cost_eq F hF rs hw s hik hkn hl,call_some,chk_pos (fun _=>⟨by omega,by omega⟩)]
        simp only [nat_toNat,hbk,hb,chk_in hk2,chk_in hi2,chk_in hi3]
        rw [chk_pos (fun _=>⟨by omega,by omega⟩),wrap_succ (by omega)]
      rw [hun]
      cases hok:(costOf rs s i k).2 with
      | false =>
        refine ⟨v2,v3,rfl,rfl,?_,fun j _=>⟨rfl,rfl⟩,?_,rfl⟩
        · have:candOf (costOf rs s i k) k x=none:=by cases x <;> simp [candOf,hok]
          rw [this]
          exact hb
        · have:candOf (costOf rs s i k) k x=none:=by cases x <;> simp [candOf,hok]
          rw [this]
          exact hh
      | true =>
        match x,hx with
        | none,hx=>exact ⟨v2,v3,rfl,rfl,hb,fun j _=>⟨rfl,rfl⟩,hh,rfl⟩
        | some (r,t),hx =>
          obtain ⟨g1,g2,g3⟩:=hx r t rfl
          have hwr:IntKind.i64.wrap ((costOf rs s i k).1+r)=(costOf rs s i k).1+r:=wrap_id (by omega)
          have hcand:candOf (costOf rs s i k) k (some (r,t))=some ((costOf rs s i k).1+r,k :: t):=by simp [candOf,hok]
          rw [hcand]
          have hx':decide (encB (some (r,t)) < 0)=false:=decide_eq_false (show ¬ r < 0 by omega)
          rw [hx',Bool.not_true,cond_false,cond_false,show encB (some (r,t))=r from rfl,hwr]
          cases acc with
          | none =>
            refine ⟨v2.set i ((costOf rs s i k).1+r),v3.set i (k:Int),by simp,by simp,getD_set hi2 _,fun j hj=>⟨getD_set_ne (Ne.symm hj) _,getD_set_ne (Ne.symm hj) _⟩,?_,rfl⟩
            intro r' k' t' h
            simp only [updL,Option.some.injEq,Prod.mk.injEq,List.cons.injEq] at h
            rw [getD_set hi3,h.2.1]
          | some a =>
            obtain ⟨a1,a2⟩:=a
            obtain ⟨b1,b2,b3⟩:=ha a1 a2 rfl
            have e:updL (some (a1,a2)) (some ((costOf rs s i k).1+r,k :: t))=if (costOf rs s i k).1+r≤a1 then some ((costOf rs s i k).1+r,k :: t) else some (a1,a2):=rfl
            have ha':decide (encB (some (a1,a2)) < 0)=false:=decide_eq_false (show ¬ a1 < 0 by omega)
            rw [e,ha',cond_false,show encB (some (a1,a2))=a1 from rfl]
            by_cases h:(costOf rs s i k).1+r≤a1
            · rw [if_pos h,decide_eq_true h]
              refine ⟨v2.set i ((costOf rs s i k).1+r),v3.set i (k:Int),by simp,by simp,getD_set hi2 _,fun j hj=>⟨getD_set_ne (Ne.symm hj) _,getD_set_ne (Ne.symm hj) _⟩,?_,rfl⟩
              intro r' k' t' h
              simp only [Option.some.injEq,Prod.mk.injEq,List.cons.injEq] at h
              rw [getD_set hi3,h.2.1]
            · rw [if_neg h,decide_eq_false h]
              exact ⟨v2,v3,rfl,rfl,hb,fun j _=>⟨rfl,rfl⟩,hh,rfl⟩
    obtain ⟨w2,w3,s1,s2,s3,s4,s5,s6⟩:=step
    have hca:SolOk 301 (updL acc (candOf (costOf rs s i k) k x)):=updL_ok (ha.mono (by omega)) (candOf_ok hcost.1 hcost.2 hx)
    obtain ⟨v2',v3',q1,q2,q3,q4,q5,q6⟩:=L2_ok hi X (k+1) n (updL acc (candOf (costOf rs s i k) k x)) w2 w3 (by omega) (by omega) (by omega) (by omega) (by omega) (fun y hy=>hX y (by simp [hy])) hca s3 (fun j hj=>by
      have:=hbs (j+1) (by simp; omega)
      rw [(s4 (k+1+j) (by omega)).1,show k+1+j=k+(j+1) by omega,this]
      rfl) s5
    exact ⟨v2',v3',by rw [s6,q1],by omega,by omega,q4,fun j hj=>⟨(q5 j hj).1.trans (s4 j hj).1,(q5 j hj).2.trans (s4 j hj).2⟩,q6⟩
end
end Go.Vm.ParM
