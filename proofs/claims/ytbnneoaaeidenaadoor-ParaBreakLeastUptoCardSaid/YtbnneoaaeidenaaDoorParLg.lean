/-
  para.Break: bounds.
-/
import Derived.Test.YtbnneoaaeidenaaDoorParLf
namespace Go.Vm.ParM
def OkS (s:S_ParaShape):Prop:=1≤s.f0∧s.f0≤65535∧0≤s.f2∧s.f3≤65535∧0≤s.f4∧s.f4≤65535∧0≤s.f5∧s.f5≤1048576∧s.f2≤s.f1∧s.f1≤s.f3
theorem shape_good {s:S_ParaShape} (h:shapeErr s=0):OkS s:=by
  unfold shapeErr at h
  cases h1:(bif z8 s then true else (decide (s.f5 > 1048576))) with
  | true=>rw [h1] at h; cases h
  | false =>
    rw [h1,cond_false] at h
    cases h2:(bif (decide (s.f1 < s.f2)) then true else (decide (s.f3 < s.f1))) with
    | true=>rw [h2] at h; cases h
    | false =>
      unfold z8 z7 z6 at h1
      simp only [or_cond,Bool.or_eq_false_iff,decide_eq_false_iff_not] at h1 h2
      unfold OkS
      omega
theorem measL_b {rs:List Part} (hw:OkW rs):∀ (d i:Nat) (acc:Int×Int) (t:Nat),t+d≤20 → -70000 * ((t:Int)+1)≤acc.1→acc.1≤70000 * ((t:Int)+1)→0≤acc.2→acc.2≤(t:Int) →
    -70000 * (((t+d:Nat):Int)+1)≤(measL rs i d acc).1∧(measL rs i d acc).1≤70000 * (((t+d:Nat):Int)+1)∧0≤(measL rs i d acc).2∧(measL rs i d acc).2≤((t+d:Nat):Int)
  | 0,i,acc,t,_,h1,h2,h3,h4=>⟨h1,h2,h3,h4⟩
  | d+1,i,acc,t,ht,h1,h2,h3,h4=>by
    obtain ⟨g1,g2,g3,g4⟩:=okw_get hw i
    rw [measL]
    have hs : -70000 * (((t+1:Nat):Int)+1)≤(stepM acc (rs.getD i p0)).1∧(stepM acc (rs.getD i p0)).1≤70000 * (((t+1:Nat):Int)+1)∧0≤(stepM acc (rs.getD i p0)).2∧(stepM acc (rs.getD i p0)).2≤((t+1:Nat):Int):=by
      unfold stepM
      cases (rs.getD i p0).first with
      | true =>
        rw [cond_true,wrap_id (x:=acc.1+(rs.getD i p0).w) (by omega),wrap_id (x:=acc.2+1) (by omega)]
        dsimp only
        omega
      | false =>
        rw [cond_false,wrap_id (x:=acc.1+(rs.getD i p0).w) (by omega),wrap_id (x:=acc.1+(rs.getD i p0).w+(rs.getD i p0).j) (by omega)]
        dsimp only
        omega
    have:=measL_b hw d (i+1) (stepM acc (rs.getD i p0)) (t+1) (by omega) hs.1 hs.2.1 hs.2.2.1 hs.2.2.2
    rw [show t+1+d=t+(d+1) by omega] at this
    exact this
theorem meas_b {rs:List Part} (hw:OkW rs) {hy:Int} (h0:0≤hy) (h1:hy≤65535) {a b:Nat} (hab:a < b) (hb:b≤12) : -1500000≤(meas rs a b hy).1∧(meas rs a b hy).1≤1500000∧0≤(meas rs a b hy).2∧(meas rs a b hy).2≤12:=by
  have g:=okw_get hw a
  obtain ⟨q1,q2,q3,q4⟩:=measL_b hw (b - a - 1) (a+1) ((rs.getD a p0).w,0) 0 (by omega) (by dsimp only; omega) (by dsimp only; omega) (by dsimp only; omega) (by dsimp only; omega)
  unfold meas
  generalize measL rs (a+1) (b - a - 1) ((rs.getD a p0).w,0)=m at *
  cases (rs.getD (b - 1) p0).last with
  | true =>
    simp only [cond_true]
    omega
  | false =>
    simp only [cond_false]
    rw [wrap_id (by omega)]
    omega
theorem sq_b {r:Int} (h1 : -2900000≤r) (h2:r≤2900000):0≤r * r∧r * r≤8410000000000:=by
  have e:r * r=((r.natAbs * r.natAbs:Nat):Int):=(Int.natAbs_mul_self (a:=r)).symm
  have hn:r.natAbs≤2900000:=by omega
  have:=Nat.mul_le_mul hn hn
  rw [e]
  omega
theorem mul_b {m f:Int} (h1:0≤m) (h2:m≤12) (h3:0≤f) (h4:f≤65535):0≤m * f∧m * f≤786420:=by
  refine ⟨Int.mul_nonneg h1 h3,?_⟩
  have:=Int.mul_le_mul h2 h4 h3 (by omega:(0:Int)≤12)
  omega
theorem costs_ok {rs:List Part} (hw:OkW rs) {s:S_ParaShape} (hs:OkS s) (hl:rs.length≤12):CostOk (costOf rs s) rs.length:=by
  intro a b hab hb
  obtain ⟨s1,s2,s3,s4,s5,s6,s7,s8,s9,s10⟩:=hs
  obtain ⟨m1,m2,m3,m4⟩:=meas_b hw s5 s6 hab (show b≤12 by omega)
  unfold costOf
  generalize meas rs a b s.f4=m at *
  have hm:=mul_b m3 m4 (show 0≤s.f1 by omega) (show s.f1≤65535 by omega)
  have hoff : -2900000≤offOf m s∧offOf m s≤2900000:=by
    unfold offOf
    rw [wrap_id (x:=s.f0 - m.1) (by omega),wrap_id (x:=m.2 * s.f1) (by omega),wrap_id (by omega)]
    omega
  have hrest : -2900000≤restOf m s (b == rs.length)∧restOf m s (b == rs.length)≤2900000:=by
    unfold restOf
    cases (b == rs.length) with
    | true =>
      rw [cond_true]
      split <;> omega
    | false =>
      rw [cond_false]
      omega
  have hsq:=sq_b hrest.1 hrest.2
  generalize restOf m s (b == rs.length)=r at *
  generalize decide (IntKind.i64.wrap (m.1+IntKind.i64.wrap (m.2 * s.f2)) > s.f0)=p
  generalize (bif (bif !(b == rs.length) then decide (m.2 > 0) else false) then decide (IntKind.i64.wrap (m.1+IntKind.i64.wrap (m.2 * s.f3)) < s.f0) else false)=q
  cases p with
  | true=>simp
  | false =>
    cases q with
    | true=>simp
    | false =>
      simp only [cond_false]
      rw [wrap_id (x:=r * r) (by omega)]
      cases (rs.getD (b - 1) p0).last with
      | true =>
        simp only [cond_true]
        omega
      | false =>
        simp only [cond_false]
        rw [wrap_id (by omega)]
        omega
/-- Words without an error. -/
theorem scan_good:∀ (l:List S_ParaWord) (m:Nat),m≤256→(∀ w∈l,w.f0.length≤2097152)→scanW l (m:Int)=none→(∀ w∈l,Fits w∧w.f0.length≤256∧w.f0.any badW=false∧w.f1.any badJ=false)∧m+(l.map fun w=>w.f0.length).sum≤256
  | [],m,hm,_,_=>⟨fun w hw=>(by cases hw),(by simpa using hm)⟩
  | w :: r,m,hm,hs,h=>by
    unfold scanW at h
    have hw:=hs w (by simp)
    split at h
    · cases h
    rename_i h1
    split at h
    · cases h
    rename_i h2
    split at h
    · cases h
    rename_i h3
    split at h
    · cases h
    rename_i h4
    rw [wrap_id (by omega)] at h h2
    have ih:=scan_good r (m+w.f0.length) (by omega) (fun x hx=>hs x (by simp [hx])) h
    refine ⟨fun x hx=>?_,?_⟩
    · rcases List.mem_cons.1 hx with rfl | hx
      · refine ⟨?_,by omega,by simpa using h3,by simpa using h4⟩
        show x.f1.length+1=x.f0.length
        omega
      · exact ih.1 x hx
    · have:=ih.2
      simp only [List.map_cons,List.sum_cons]
      omega
theorem recs_ok:∀ (l:List S_ParaWord) (k:Nat),(∀ w∈l,w.f0.any badW=false∧w.f1.any badJ=false)→OkW (recs k l)
  | [],_,_=>fun r hr=>by cases hr
  | x :: l,k,h=>by
    intro r hr
    rw [recs] at hr
    rcases List.mem_append.1 hr with hr | hr
    · obtain ⟨h1,h2⟩:=h x (by simp)
      have key:∀ (n i:Nat),r∈partsFrom k x i n→∃ j,r=part k x j:=by
        intro n
        induction n with
        | zero=>intro i h; cases h
        | succ n ih =>
          intro i h
          rcases List.mem_cons.1 h with h | h
          · exact ⟨i,h⟩
          · exact ih _ h
      obtain ⟨j,rfl⟩:=key _ _ hr
      have g1:∀ q:Nat,0≤x.f0.getD q 0∧x.f0.getD q 0≤65535:=fun q=>by
        rw [List.getD_eq_getElem?_getD]
        cases hq:x.f0[q]? with
        | none=>simp
        | some v =>
          have:=List.any_eq_false.1 h1 v (List.mem_of_getElem? hq)
          simp only [badW,or_cond,Bool.or_eq_true,decide_eq_true_eq] at this
          simp only [Option.getD_some]
          omega
      have g2:∀ q:Nat,-2047≤x.f1.getD q 0∧x.f1.getD q 0≤2047:=fun q=>by
        rw [List.getD_eq_getElem?_getD]
        cases hq:x.f1[q]? with
        | none=>simp
        | some v =>
          have:=List.any_eq_false.1 h2 v (List.mem_of_getElem? hq)
          simp only [badJ,or_cond,Bool.or_eq_true,decide_eq_true_eq] at this
          simp only [Option.getD_some]
          omega
      refine ⟨(g1 j).1,(g1 j).2,?_,?_⟩
      · show -2047≤(if j=0 then 0 else x.f1.getD (j - 1) 0)
        split
        · omega
        · exact (g2 _).1
      · show (if j=0 then 0 else x.f1.getD (j - 1) 0)≤2047
        split
        · omega
        · exact (g2 _).2
    · exact recs_ok l (k+1) (fun w hw=>h w (by simp [hw])) r hr
end Go.Vm.ParM
