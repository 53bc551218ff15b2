/-
  para.Break: the cost of a line.
-/
import Derived.Test.YtbnneoaaeidenaaDoorParLb
namespace Go.Vm.ParM
def p0:Part:=⟨0,0,false,false,0⟩
def stepM (acc:Int×Int) (b:Part):Int×Int:=bif b.first then (IntKind.i64.wrap (acc.1+b.w),IntKind.i64.wrap (acc.2+1)) else (IntKind.i64.wrap (IntKind.i64.wrap (acc.1+b.w)+b.j),acc.2)
/-- A line's fixed width and its gaps,from a part on. -/
def measL (rs:List Part):Nat→Nat→Int×Int→Int×Int
  | _,0,acc=>acc
  | i,d+1,acc=>measL rs (i+1) d (stepM acc (rs.getD i p0))
def meas (rs:List Part) (a b:Nat) (hy:Int):Int×Int :=
  (bif (rs.getD (b - 1) p0).last then (measL rs (a+1) (b - a - 1) ((rs.getD a p0).w,0)).1 else IntKind.i64.wrap ((measL rs (a+1) (b - a - 1) ((rs.getD a p0).w,0)).1+hy),(measL rs (a+1) (b - a - 1) ((rs.getD a p0).w,0)).2)
theorem getQ (rs:List Part) (i:Nat):(rs.map toQ).getD i (S_para_part.mk 0 0 false false)=toQ (rs.getD i p0):=by
  simp only [List.getD_eq_getElem?_getD,List.getElem?_map]
  cases rs[i]? <;> rfl
theorem getP (rs:List Part) (i:Nat):(rs.map toP).getD i (S_ref3_Piece.mk 0 0 0 false)=toP (rs.getD i p0):=by
  simp only [List.getD_eq_getElem?_getD,List.getElem?_map]
  cases rs[i]? <;> rfl
theorem adj_at {rs:List Part} (hA:Adj rs) {i:Nat} (h0:0 < i) (hi:i < rs.length):((rs.getD i p0).word == (rs.getD (i - 1) p0).word) = !(rs.getD i p0).first:=by
  obtain ⟨j,rfl⟩:∃ j,i=j+1:=⟨i - 1,by omega⟩
  have e1:rs.getD (j+1) p0=rs[j+1]:=by rw [List.getD_eq_getElem?_getD,List.getElem?_eq_getElem hi]; rfl
  have e2:rs.getD (j+1 - 1) p0=rs[j]:=by rw [show j+1 - 1=j by omega,List.getD_eq_getElem?_getD,List.getElem?_eq_getElem (by omega:j < rs.length)]; rfl
  rw [e1,e2]
  exact Adj.get hA (List.getElem?_eq_getElem (by omega)) (List.getElem?_eq_getElem hi)
theorem M1 (F:Nat) (rs:List Part) (a b:Nat) (hb:b≤rs.length) (hl:rs.length≤300):∀ (d i n:Nat) (v1 v2:Int),i+d=b→d < n→a < i→para_fixed_L0 F (rs.map toQ) (a:Int) (b:Int) n v1 v2 (i:Int)=some (measL rs i d (v1,v2))
  | d,i,0,v1,v2,_,h,_=>absurd h (Nat.not_lt_zero _)
  | 0,i,n+1,v1,v2,h,_,_=>by
    have hi:i=b:=by omega
    subst hi
    unfold para_fixed_L0
    rw [dec_end]
    rfl
  | d+1,i,n+1,v1,v2,h,hn,ha=>by
    have hi:i < b:=by omega
    have hq:i < (rs.map toQ).length:=by rw [List.length_map]; omega
    unfold para_fixed_L0
    rw [dec_lt hi,cond_true,chk_in hq,chk_pos (fun _=>⟨by omega,by omega⟩),show decide ((i:Int) > (a:Int))=true from decide_eq_true (by omega),chk_in hq,lett_eq,wrap_succ (by omega)]
    simp only [nat_toNat,getQ,cond_true]
    rw [measL]
    cases hf:(rs.getD i p0).first with
    | true =>
      simp only [toQ,hf,cond_true,call_some]
      rw [M1 F rs a b hb hl d (i+1) n _ _ (by omega) (by omega) (by omega)]
      simp only [stepM,hf,cond_true]
    | false =>
      simp only [toQ,hf,cond_false,call_some]
      rw [M1 F rs a b hb hl d (i+1) n _ _ (by omega) (by omega) (by omega)]
      simp only [stepM,hf,cond_false]
theorem M2 (F:Nat) (rs:List Part) (hA:Adj rs) (b:Nat) (hb:b≤rs.length) (hl:rs.length≤300):∀ (d i n:Nat) (v1 v2:Int),i+d=b→d < n→0 < i→ref3_Measured_L0 F (rs.map toP) (b:Int) n v1 v2 (i:Int)=some (measL rs i d (v1,v2))
  | d,i,0,v1,v2,_,h,_=>absurd h (Nat.not_lt_zero _)
  | 0,i,n+1,v1,v2,h,_,_=>by
    have hi:i=b:=by omega
    subst hi
    unfold ref3_Measured_L0
    rw [dec_end]
    rfl
  | d+1,i,n+1,v1,v2,h,hn,ha=>by
    have hi:i < b:=by omega
    have hq:i < (rs.map toP).length:=by rw [List.length_map]; omega
    have hadj:=adj_at hA ha (show i < rs.length by omega)
    unfold ref3_Measured_L0
    rw [dec_lt hi,cond_true,chk_in hq,chk_in hq,wrap_pred ha (by omega),chk_in (show i - 1 < (rs.map toP).length by omega),lett_eq,chk_in hq,lett_eq,wrap_succ (by omega)]
    simp only [nat_toNat,getP]
    rw [measL]
    have hw:((toP (rs.getD i p0)).f2 == (toP (rs.getD (i - 1) p0)).f2) = !(rs.getD i p0).first:=hadj
    rw [hw]
    cases hf:(rs.getD i p0).first with
    | true =>
      simp only [toP,hf,Bool.not_true,cond_false,call_some]
      rw [M2 F rs hA b hb hl d (i+1) n _ _ (by omega) (by omega) (by omega)]
      simp only [stepM,hf,cond_true]
    | false =>
      simp only [toP,hf,Bool.not_false,cond_true,call_some]
      rw [M2 F rs hA b hb hl d (i+1) n _ _ (by omega) (by omega) (by omega)]
      simp only [stepM,hf,cond_false]
def OkW (rs:List Part):Prop:=∀ r∈rs,0≤r.w∧r.w≤65535 ∧ -2047≤r.j∧r.j≤2047
theorem okw_get {rs:List Part} (h:OkW rs) (i:Nat):0≤(rs.getD i p0).w∧(rs.getD i p0).w≤65535 ∧ -2047≤(rs.getD i p0).j∧(rs.getD i p0).j≤2047:=by
  rw [List.getD_eq_getElem?_getD]
  cases hi:rs[i]? with
  | none=>simp [p0]
  | some r=>exact h r (List.mem_of_getElem? hi)
theorem fixed_eq (F:Nat) (hF:400≤F) (rs:List Part) (hw:OkW rs) (s:S_ParaShape) {a b:Nat} (hab:a < b) (hb:b≤rs.length) (hl:rs.length≤300):para_fixed F (rs.map toQ) (a:Int) (b:Int) s=some (meas rs a b s.f4):=by
  obtain ⟨G,rfl⟩:∃ G,F=G+1:=⟨F - 1,by omega⟩
  have hq:a < (rs.map toQ).length:=by rw [List.length_map]; omega
  unfold para_fixed
  have h0:para_fixed_L0 (G+1) (rs.map toQ) (a:Int) (b:Int) (G+1) 0 0 (a:Int)=some (measL rs (a+1) (b - a - 1) ((rs.getD a p0).w,0)):=by
    have:=okw_get hw a
    unfold para_fixed_L0
    rw [dec_lt hab,cond_true,chk_in hq,show decide ((a:Int) > (a:Int))=false from decide_eq_false (by omega),chk_pos (fun h=>by simp at h)]
    simp only [cond_false,nat_toNat,getQ,call_some]
    rw [wrap_succ (by omega),M1 (G+1) rs a b hb hl (b - a - 1) (a+1) G _ _ (by omega) (by omega) (by omega),Int.zero_add,wrap_id (x:=(toQ (rs.getD a p0)).f0) (by simp only [toQ]; omega)]
    rfl
  rw [h0,call_some,wrap_pred (by omega) (by omega)]
  unfold meas
  rcases measL rs (a+1) (b - a - 1) ((rs.getD a p0).w,0) with ⟨x,y⟩
  dsimp only
  rw [chk_in (show b - 1 < (rs.map toQ).length by rw [List.length_map]; omega)]
  simp only [nat_toNat,getQ]
  cases hlast:(rs.getD (b - 1) p0).last with
  | true=>simp only [toQ,hlast,Bool.not_true,cond_false,cond_true,call_some]
  | false=>simp only [toQ,hlast,Bool.not_false,cond_false,cond_true,call_some]
theorem measured_eq (F:Nat) (hF:400≤F) (rs:List Part) (hA:Adj rs) (hy:Int) {a b:Nat} (hab:a < b) (hb:b≤rs.length) (hl:rs.length≤300):ref3_Measured F (rs.map toP) (a:Int) (b:Int) hy=some (meas rs a b hy):=by
  have hq:a < (rs.map toP).length:=by rw [List.length_map]; omega
  unfold ref3_Measured
  rw [chk_in hq,wrap_succ (by omega),M2 F rs hA b hb hl (b - a - 1) (a+1) F _ _ (by omega) (by omega) (by omega)]
  simp only [nat_toNat,getP,call_some]
  rw [wrap_pred (by omega) (by omega)]
  unfold meas
  have e:(toP (rs.getD a p0)).f0=(rs.getD a p0).w:=rfl
  rw [e]
  rcases measL rs (a+1) (b - a - 1) ((rs.getD a p0).w,0) with ⟨x,y⟩
  dsimp only
  rw [chk_in (show b - 1 < (rs.map toP).length by rw [List.length_map]; omega)]
  simp only [nat_toNat,getP]
  cases hlast:(rs.getD (b - 1) p0).last with
  | true=>simp only [toP,hlast,Bool.not_true,cond_false,cond_true,call_some]
  | false=>simp only [toP,hlast,Bool.not_false,cond_false,cond_true,call_some]
/-- What is left of a line. -/
def offOf (m:Int×Int) (s:S_ParaShape):Int:=IntKind.i64.wrap (IntKind.i64.wrap (s.f0 - m.1) - IntKind.i64.wrap (m.2 * s.f1))
def restOf (m:Int×Int) (s:S_ParaShape) (e:Bool):Int:=bif e then (if 0 < offOf m s then 0 else offOf m s) else offOf m s
def costOf (rs:List Part) (s:S_ParaShape) (a b:Nat):Int×Bool :=
  bif decide (IntKind.i64.wrap ((meas rs a b s.f4).1+IntKind.i64.wrap ((meas rs a b s.f4).2 * s.f2)) > s.f0) then (0,false)
  else bif (bif (bif !(b == rs.length) then decide ((meas rs a b s.f4).2 > 0) else false) then decide (IntKind.i64.wrap ((meas rs a b s.f4).1+IntKind.i64.wrap ((meas rs a b s.f4).2 * s.f3)) < s.f0) else false) then (0,false)
  else (bif (rs.getD (b - 1) p0).last then IntKind.i64.wrap (restOf (meas rs a b s.f4) s (b == rs.length) * restOf (meas rs a b s.f4) s (b == rs.length)) else IntKind.i64.wrap (IntKind.i64.wrap (restOf (meas rs a b s.f4) s (b == rs.length) * restOf (meas rs a b s.f4) s (b == rs.length))+s.f5),true)
theorem beqLen {b n:Nat}:((b:Int) == (n:Int))=(b == n):=by
  rw [Bool.eq_iff_iff]
  simp only [beq_iff_eq]
  omega
theorem ltLen {b n:Nat} (h:b≤n):decide ((b:Int) < (n:Int)) = !(b == n):=by
  rw [Bool.eq_iff_iff]
  simp
  omega
theorem cost_eq (F:Nat) (hF:400≤F) (rs:List Part) (hw:OkW rs) (s:S_ParaShape) {a b:Nat} (hab:a < b) (hb:b≤rs.length) (hl:rs.length≤300):para_cost F (rs.map toQ) (a:Int) (b:Int) s=some (costOf rs s a b):=by
  unfold para_cost costOf
  rw [fixed_eq F hF rs hw s hab hb hl,call_some,List.length_map,beqLen,wrap_pred (by omega) (by omega)]
  simp only [lett_eq,nat_toNat,getQ,chk_in (show b - 1 < rs.length by omega)]
  generalize decide (IntKind.i64.wrap ((meas rs a b s.f4).1+IntKind.i64.wrap ((meas rs a b s.f4).2 * s.f2)) > s.f0)=p
  generalize (bif (bif !(b == rs.length) then decide ((meas rs a b s.f4).2 > 0) else false) then decide (IntKind.i64.wrap ((meas rs a b s.f4).1+IntKind.i64.wrap ((meas rs a b s.f4).2 * s.f3)) < s.f0) else false)=q
  cases p with
  | true=>rfl
  | false =>
    cases q with
    | true=>rfl
    | false =>
      simp only [cond_false]
      have hr:(bif (bif b == rs.length then decide (IntKind.i64.wrap (IntKind.i64.wrap (s.f0 - (meas rs a b s.f4).1) - IntKind.i64.wrap ((meas rs a b s.f4).2 * s.f1)) > 0) else false) then some 0 else some (IntKind.i64.wrap (IntKind.i64.wrap (IntKind.i64.wrap (s.f0 - (meas rs a b s.f4).1) - IntKind.i64.wrap ((meas rs a b s.f4).2 * s.f1)) * IntKind.i64.wrap (IntKind.i64.wrap (s.f0 - (meas rs a b s.f4).1) - IntKind.i64.wrap ((meas rs a b s.f4).2 * s.f1))))) =
          some (IntKind.i64.wrap (restOf (meas rs a b s.f4) s (b == rs.length) * restOf (meas rs a b s.f4) s (b == rs.length))):=by
        change (bif (bif b == rs.length then decide (offOf (meas rs a b s.f4) s > 0) else false) then some 0 else some (IntKind.i64.wrap (offOf (meas rs a b s.f4) s * offOf (meas rs a b s.f4) s)))=_
        unfold restOf
        cases (b == rs.length) with
        | false=>rfl
        | true =>
          simp only [cond_true]
          by_cases h:0 < offOf (meas rs a b s.f4) s
          · rw [if_pos h,decide_eq_true h]
            rfl
          · rw [if_neg h,decide_eq_false (by omega)]
            rfl
      rw [hr]
      simp only [call_some]
      cases hlast:(rs.getD (b - 1) p0).last <;> simp only [toQ,hlast,call_some,Bool.not_true,Bool.not_false,cond_true,cond_false]
theorem linecost_eq (F:Nat) (hF:400≤F) (rs:List Part) (hA:Adj rs) (s:S_ParaShape) {a b:Nat} (hab:a < b) (hb:b≤rs.length) (hl:rs.length≤300):ref3_LineCost F (rs.map toP) (a:Int) (b:Int) s=some (costOf rs s a b):=by
  unfold ref3_LineCost costOf
  rw [measured_eq F hF rs hA s.f4 hab hb hl,call_some,List.length_map,beqLen,ltLen hb,wrap_pred (by omega) (by omega)]
  simp only [lett_eq,nat_toNat,getP,chk_in (show b - 1 < rs.length by omega)]
  generalize decide (IntKind.i64.wrap ((meas rs a b s.f4).1+IntKind.i64.wrap ((meas rs a b s.f4).2 * s.f2)) > s.f0)=p
  generalize (bif (bif !(b == rs.length) then decide ((meas rs a b s.f4).2 > 0) else false) then decide (IntKind.i64.wrap ((meas rs a b s.f4).1+IntKind.i64.wrap ((meas rs a b s.f4).2 * s.f3)) < s.f0) else false)=q
  cases p with
  | true=>rfl
  | false =>
    cases q with
    | true=>rfl
    | false =>
      simp only [cond_false]
      have hr:(bif b == rs.length then some (if 0 < IntKind.i64.wrap (IntKind.i64.wrap (s.f0 - (meas rs a b s.f4).1) - IntKind.i64.wrap ((meas rs a b s.f4).2 * s.f1)) then 0 else IntKind.i64.wrap (IntKind.i64.wrap (s.f0 - (meas rs a b s.f4).1) - IntKind.i64.wrap ((meas rs a b s.f4).2 * s.f1))) else some (IntKind.i64.wrap (IntKind.i64.wrap (s.f0 - (meas rs a b s.f4).1) - IntKind.i64.wrap ((meas rs a b s.f4).2 * s.f1)))) =
          some (restOf (meas rs a b s.f4) s (b == rs.length)):=by
        unfold restOf offOf
        cases (b == rs.length) <;> rfl
      rw [hr]
      simp only [call_some]
      cases hlast:(rs.getD (b - 1) p0).last <;> simp only [toP,hlast,cond_true,cond_false]
end Go.Vm.ParM
