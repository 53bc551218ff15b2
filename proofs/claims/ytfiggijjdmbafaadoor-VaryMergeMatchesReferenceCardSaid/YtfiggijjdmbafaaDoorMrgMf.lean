/-
  vary.Merge,plain law 6: runs.
-/
import Derived.Test.YtfiggijjdmbafaaDoorMrgMe
namespace Go.Vm.MrgG
abbrev RunSt:=(List (List UInt8))×(List (List (List UInt8)))×(List (List UInt8))×(List UInt8)×(List UInt8)
theorem run_L0 (F:Nat) (rec:Rec) (rows:List (List (List UInt8))) (row:List (List UInt8)) (hrow:row.length=2) (hv:∀ x∈row,x.length≤10000) (hF:8200 < F) (d:Nat) (hd:d≤16)
    (hrec:d < 16→RecOk rec rows row (d+1)) (b:Bool) (st:List Bool) (hst:st.length=d):∀ (n:Nat) (t o:List UInt8),t.length < n→t.length≤8192→o.length≤20000 →
    (∃ o',vary_merger_run_L0 F (d:Int) b rec n fs2 rows row t o=some (.go (fs2,rows,row,[],o'))∧R (MG row t (b :: st) o) (.inl (o',b :: st))) ∨
    (∃ e t' o',vary_merger_run_L0 F (d:Int) b rec n fs2 rows row t o=some (.esc (e,fs2,rows,row,t',o'))∧((0 < d∧Ran row t.length (MG row t (b :: st) o) st e t' o')∨((e == 0)=false∧fin (MG row t (b :: st) o)=e))):=by
  intro n
  induction n with
  | zero=>intro t o h; omega
  | succ n ih =>
    intro t o hn ht ho
    rw [vary_merger_run_L0]
    cases t with
    | nil=>exact .inl ⟨o,rfl,E.refl o,rfl⟩
    | cons x t0 =>
      rw [show (!((x :: t0) == []))=true from rfl,cond_true,chk_pos (by omega)]
      obtain ⟨ch,r,h0,hnb,hstop,hr⟩:=stop_split (x :: t0)
      have hcall:∀ (k:Int→Option (Out RunSt (Int×RunSt))),(call (bif (decide ((Lib.indexAny (x :: t0) ([123,125]:List UInt8)) < (0:Int))) then some ((x :: t0).length:Int) else some (Lib.indexAny (x :: t0) ([123,125]:List UInt8))) k)=k (stop (x :: t0)):=fun k=>by
        unfold stop
        cases decide (Lib.indexAny (x :: t0) ([123,125]:List UInt8) < 0) <;> rfl
      rw [hcall,hstop,h0]
      have hl:(ch++r).length=ch.length+r.length:=List.length_append
      have hl0:ch.length+r.length≤8192:=by rw [← hl,← h0]; exact ht
      have hln:ch.length+r.length < n+1:=by rw [← hl,← h0]; exact hn
      have hpos:1≤ch.length+r.length:=by rw [← hl,← h0,List.length_cons]; omega
      have e1:((ch++r).drop (0:Int).toNat).take (ch.length - (0:Int).toNat)=ch:=by
        rw [show (0:Int).toNat=0 from rfl,List.drop_zero,Nat.sub_zero,List.take_left]
      have e2:((ch++r).drop ch.length).take ((ch++r).length - ch.length)=r:=by
        rw [List.drop_left,List.take_of_length_le (by omega)]
      rw [chk_pos ⟨by omega,by omega,by omega⟩]
      simp only [nat_toNat,e1]
      rw [vput F ch b st _ _ _ _ _ (by omega),call_some]
      simp only [nat_toNat,e2]
      rw [chk_pos ⟨by omega,by omega,by omega⟩]
      have hmg:=MG_chunk row r (b :: st) ch o hnb
      have ho1:(putS o (b :: st) ch).length≤20000:=put_le (by omega) ho
      have back:∀ (t2:List UInt8) (o2:List UInt8),R (MG row (ch++r) (b :: st) o) (MG row t2 (b :: st) o2)→t2.length < n→t2.length≤ch.length+r.length→o2.length≤20000 →
          (∃ o',vary_merger_run_L0 F (d:Int) b rec n fs2 rows row t2 o2=some (.go (fs2,rows,row,[],o'))∧R (MG row (ch++r) (b :: st) o) (.inl (o',b :: st))) ∨
          (∃ e t' o',vary_merger_run_L0 F (d:Int) b rec n fs2 rows row t2 o2=some (.esc (e,fs2,rows,row,t',o'))∧((0 < d∧Ran row (ch++r).length (MG row (ch++r) (b :: st) o) st e t' o')∨((e == 0)=false∧fin (MG row (ch++r) (b :: st) o)=e))):=by
        intro t2 o2 hR h1 h2 h3
        rcases ih t2 o2 h1 (by omega) h3 with ⟨o',q1,q2⟩ | ⟨e,t',o',q1,q2⟩
        · exact .inl ⟨o',q1,hR.trans q2⟩
        · refine .inr ⟨e,t',o',q1,?_⟩
          rcases q2 with ⟨q0,⟨a1,a2,a3,a4⟩ | ⟨a1,a2⟩⟩ | ⟨a1,a2⟩
          · exact .inl ⟨q0,.inl ⟨a1,by omega,a3,hR.trans a4⟩⟩
          · exact .inr ⟨a1,by rw [fin_R hR]; exact a2⟩
          · exact .inr ⟨a1,by rw [fin_R hR]; exact a2⟩
      rcases hr with rfl | ⟨c,s,rfl,hc⟩
      · rw [show (([]:List UInt8) == [])=true from rfl,cond_true]
        exact back [] _ hmg (by simp only [List.length_nil] at hln hpos ⊢; omega) (by simp) ho1
      · simp only [List.length_cons] at hln hl0
        rw [show ((c :: s) == [])=false from rfl,cond_false,pre2,call_some]
        have h2nd:∀ k:Bool→Option (Out RunSt (Int×RunSt)),(call (bif (((bif c == 123 then s.head? == some 123 else false) == false) && true) then strings_HasPrefix F (c :: s) ([125,125]:List UInt8) else some false) fun y3=>k (bif (bif c == 123 then s.head? == some 123 else false) then true else y3))=k (two c s):=by
          intro k
          rw [pre2]
          unfold two
          rcases hc with rfl | rfl
          · cases s.head? == some 123 <;> rfl
          · rfl
        have h2':=h2nd (fun y=>bif y then
            chk (0≤(0:Int)∧(0:Int)≤(1:Int)∧(1:Int)≤((c :: s).length:Int)) <|
            lett (((c :: s).drop (0:Int).toNat).take ((1:Int).toNat - (0:Int).toNat)) fun z1 =>
            call (vary_merger_put F z1 b fs2 rows row (c :: s) (putS o (b :: st) ch)) fun y4 =>
            chk (0≤(2:Int)∧(2:Int)≤(y4.2.2.2.1.length:Int)∧(y4.2.2.2.1.length:Int)≤(y4.2.2.2.1.length:Int)) <|
            vary_merger_run_L0 F (d:Int) b rec n y4.1 y4.2.1 y4.2.2.1 ((y4.2.2.2.1.drop (2:Int).toNat).take ((y4.2.2.2.1.length:Int).toNat - (2:Int).toNat)) y4.2.2.2.2
          else
            chk (0≤(0:Int)∧(0:Int) < (c :: s).length) <|
            lett ((((c :: s).getD (0:Int).toNat 0).toNat:Int)) fun z2 =>
            bif (bif (z2 == (125:Int)) then (decide ((d:Int) > 0)) else false) then
              chk (0≤(1:Int)∧(1:Int)≤((c :: s).length:Int)∧((c :: s).length:Int)≤((c :: s).length:Int)) <|
              lett (((c :: s).drop (1:Int).toNat).take (((c :: s).length:Int).toNat - (1:Int).toNat)) fun z3 =>
              some (.esc ((0:Int),fs2,rows,row,z3,(putS o (b :: st) ch)))
            else
              chk (0≤(0:Int)∧(0:Int) < (c :: s).length) <|
              lett ((((c :: s).getD (0:Int).toNat 0).toNat:Int)) fun z4 =>
              bif (z4 == (125:Int)) then
                some (.esc ((5:Int),fs2,rows,row,(c :: s),(putS o (b :: st) ch)))
              else
                call (vary_merger_open F rec (d:Int) b fs2 rows row (c :: s) (putS o (b :: st) ch)) fun y5 =>
                bif (y5.1 != (0:Int)) then
                  some (.esc (y5.1,y5.2.1,y5.2.2.1,y5.2.2.2.1,y5.2.2.2.2.1,y5.2.2.2.2.2))
                else
                  vary_merger_run_L0 F (d:Int) b rec n y5.2.1 y5.2.2.1 y5.2.2.2.1 y5.2.2.2.2.1 y5.2.2.2.2.2)
        simp only [nat_toNat] at h2'
        rw [h2']
        have hc0:(c :: s).getD (0:Int).toNat 0=c:=rfl
        simp only [hc0,lett_eq]
        have hcs:MG row (c :: s) (b :: st) (putS o (b :: st) ch)=mg row (s.length+1) (c :: s) (b :: st) (putS o (b :: st) ch):=rfl
        rw [mg] at hcs
        cases h2:two c s
        rotate_left
        · rw [h2,cond_true] at hcs
          have hs1:1≤s.length:=by
            unfold two at h2
            cases s with
            | nil=>cases h:(bif c == 123 then true else c == 125) <;> rw [h] at h2 <;> cases h2
            | cons=>simp
          rw [cond_true,chk_pos ⟨by omega,by omega,by simp only [List.length_cons]; omega⟩]
          rw [show ((c :: s).drop (0:Int).toNat).take ((1:Int).toNat - (0:Int).toNat)=[c] from rfl,vput F [c] b st _ _ _ _ _ (by simp),call_some]
          simp only
          rw [chk_pos ⟨by omega,by simp only [List.length_cons]; omega,by omega⟩]
          have e3:((c :: s).drop (2:Int).toNat).take ((c :: s).length - (2:Int).toNat)=s.tail:=by
            rw [show (2:Int).toNat=2 from rfl,List.take_of_length_le (by rw [List.length_drop]; exact Nat.le_refl _)]
            cases s <;> rfl
          rw [e3]
          refine back s.tail _ ?_ (by rw [List.length_tail]; omega) (by rw [List.length_tail]; simp only [List.length_cons]; omega) (put_le (by simp) ho1)
          refine hmg.trans ?_
          rw [hcs,mg_fuel row s.length s.tail.length s.tail _ _ (by rw [List.length_tail]; omega) (Nat.le_refl _)]
          exact R.refl _
        rw [h2,cond_false] at hcs
        have hA:0≤(0:Int)∧(0:Int) < ((c :: s).length:Int):=⟨by omega,by simp only [List.length_cons]; omega⟩
        have hB:0≤(1:Int)∧(1:Int)≤((c :: s).length:Int)∧((c :: s).length:Int)≤((c :: s).length:Int):=⟨by omega,by simp only [List.length_cons]; omega,by omega⟩
        simp only [cond_false,chk_pos hA,chk_pos hB,e125]
        rcases hc with rfl | rfl
        · rw [show (((123:UInt8)) == 125)=false from rfl,cond_false,cond_false]
          obtain ⟨e,t',o',q1,q2⟩:=open_run F rec rows row hrow hv hF d hd hrec b st s (putS o (b :: st) ch) hst (by omega) ho1 h2
          rw [q1,call_some]
          simp only
          rcases q2 with ⟨rfl,a2,a3,a4⟩ | ⟨a1,a2⟩
          · rw [show ((0:Int) != 0)=false from rfl,cond_false]
            exact back t' o' (hmg.trans a4) (by omega) (by simp only [List.length_cons]; omega) a3
          · rw [show (e != 0)=true by rw [bne,a1]; rfl,cond_true]
            exact .inr ⟨e,t',o',rfl,.inr ⟨a1,by rw [fin_R hmg]; exact a2⟩⟩
        · rw [show (((125:UInt8)) == 125)=true from rfl,cond_true] at hcs ⊢
          rw [cond_true]
          rcases Nat.eq_zero_or_pos d with rfl | hd0
          · rw [decide_eq_false (by omega),cond_false]
            have:st=[]:=List.length_eq_zero_iff.1 hst
            subst this
            refine .inr ⟨5,_,_,rfl,.inr ⟨rfl,?_⟩⟩
            rw [fin_R hmg,hcs]
            rfl
          · rw [decide_eq_true (by omega),cond_true]
            have e4:((125 :: s).drop (1:Int).toNat).take ((125 :: s:List UInt8).length - (1:Int).toNat)=s:=by
              show s.take ((125 :: s:List UInt8).length - 1)=s
              rw [List.take_of_length_le (by simp only [List.length_cons]; omega)]
            rw [e4]
            refine .inr ⟨0,s,_,rfl,.inl ⟨hd0,.inl ⟨rfl,by rw [List.length_append,List.length_cons]; omega,ho1,?_⟩⟩⟩
            refine hmg.trans ?_
            rw [hcs,show (((b :: st).length:Int) == 1)=false from beq_eq_false_iff_ne.2 (by simp only [List.length_cons]; omega),cond_false]
            exact R.refl _
theorem run_body (F:Nat) (rec:Rec) (rows:List (List (List UInt8))) (row:List (List UInt8)) (hrow:row.length=2) (hv:∀ x∈row,x.length≤10000) (hF:8200 < F) (d:Nat) (hd:d≤16)
    (hrec:d < 16→RecOk rec rows row (d+1)):RecOk (vary_merger_run_body F rec) rows row d:=by
  intro b st t o hst ht ho
  unfold vary_merger_run_body
  rcases run_L0 F rec rows row hrow hv hF d hd hrec b st hst F t o (by omega) ht ho with ⟨o',q1,q2⟩ | ⟨e,t',o',q1,q2⟩
  · rw [q1,callE_go]
    simp only
    rcases Nat.eq_zero_or_pos d with rfl | hd0
    · exact ⟨0,[],o',rfl,.inl ⟨rfl,rfl,q2⟩⟩
    · rw [decide_eq_true (by omega),cond_true]
      refine ⟨12,[],o',rfl,.inr (.inr ⟨rfl,?_⟩)⟩
      rw [fin_R q2]
      show (bif decide (((b :: st).length:Int) > 1) then 12 else 0)=12
      rw [decide_eq_true (by simp only [List.length_cons]; omega)]
      rfl
  · rw [q1]
    exact ⟨e,t',o',rfl,.inr q2⟩
theorem run_ok (F:Nat) (rows:List (List (List UInt8))) (row:List (List UInt8)) (hrow:row.length=2) (hv:∀ x∈row,x.length≤10000) (hF:8200 < F):∀ (k d:Nat),d≤16→17≤k+d→RecOk (vary_merger_run_fuel F k) rows row d:=by
  intro k
  induction k with
  | zero=>intro d h1 h2; omega
  | succ k ih=>intro d h1 h2; exact run_body F _ rows row hrow hv hF d h1 fun h=>ih (d+1) (by omega) (by omega)
end Go.Vm.MrgG
