/-
  vary.Merge,plain law 5: the merger fills as the recursion says.
-/
import Derived.Test.YtfiggijjdmbafaaDoorMrgMd
namespace Go.Vm.MrgG
abbrev Rec:=Int→Bool→(List (List UInt8))→(List (List (List UInt8)))→(List (List UInt8))→(List UInt8)→(List UInt8)→Option (Int×(List (List UInt8))×(List (List (List UInt8)))×(List (List UInt8))×(List UInt8)×(List UInt8))
/-- What a run,or the opening of a group,comes to. -/
def Ran (row:List (List UInt8)) (N:Nat) (x:(List UInt8×List Bool) ⊕ Int) (st:List Bool) (e:Int) (t' o':List UInt8):Prop :=
  (e=0∧t'.length≤N∧o'.length≤20000∧R x (MG row t' st o'))∨((e == 0)=false∧fin x=e)
def RanAll (row:List (List UInt8)) (d:Nat) (b:Bool) (N:Nat) (x:(List UInt8×List Bool) ⊕ Int) (st:List Bool) (e:Int) (t' o':List UInt8):Prop :=
  (e=0∧d=0∧R x (.inl (o',b :: st)))∨(0 < d∧Ran row N x st e t' o')∨((e == 0)=false∧fin x=e)
def RecOk (rec:Rec) (rows:List (List (List UInt8))) (row:List (List UInt8)) (d:Nat):Prop :=
  ∀ (b:Bool) (st:List Bool) (t o:List UInt8),st.length=d→t.length≤8192→o.length≤20000 →
    ∃ e t' o',rec (d:Int) b fs2 rows row t o=some (e,fs2,rows,row,t',o')∧RanAll row d b t.length (MG row t (b :: st) o) st e t' o'
theorem open_run (F:Nat) (rec:Rec) (rows:List (List (List UInt8))) (row:List (List UInt8)) (hrow:row.length=2) (hv:∀ x∈row,x.length≤10000) (hF:8200 < F) (d:Nat) (hd:d≤16)
    (hrec:d < 16→RecOk rec rows row (d+1)) (b:Bool) (st:List Bool) (s o:List UInt8) (hst:st.length=d) (hs:s.length+1≤8192) (ho:o.length≤20000) (h2:two 123 s=false) :
    ∃ e t' o',vary_merger_open F rec (d:Int) b fs2 rows row (123 :: s) o=some (e,fs2,rows,row,t',o')∧Ran row s.length (MG row (123 :: s) (b :: st) o) (b :: st) e t' o':=by
  have hmg:MG row (123 :: s) (b :: st) o=(match s.drop (nl s) with
      | []=>.inr 12
      | m :: r =>
        bif (bif (bif m != 125 then m != 63 else false) then m != 33 else false) then .inr 5
        else match lk row (s.take (nl s)) with
          | none=>.inr 6
          | some v =>
            bif m == 125 then mg row s.length r (b :: st) (putS o (b :: st) v)
            else bif decide (((b :: st).length:Int) > 16) then .inr 15
            else mg row s.length r ((bif (b :: st).headD false then (!(v == [])) == (m == 63) else false) :: b :: st) o):=by
    unfold MG
    rw [List.length_cons,mg,h2]
    rfl
  rw [hmg]
  unfold vary_merger_open
  have hnl:=nl_le s
  have hlen:((123:UInt8) :: s).length=s.length+1:=rfl
  have hname0:=vname_L0 F (123 :: s) (by omega) s F 1 rfl (by simp) (by omega)
  rw [show ((1:Nat):Int)=1 from rfl] at hname0
  rw [hname0,call_some]
  cases hr:s.drop (nl s) with
  | nil =>
    have:nl s=s.length:=by have:=List.drop_eq_nil_iff.1 hr; omega
    rw [show (((1+nl s:Nat):Int) == (((123:UInt8) :: s).length:Int))=true from beq_iff_eq.2 (by omega)]
    exact ⟨12,123 :: s,o,rfl,.inr ⟨rfl,rfl⟩⟩
  | cons mk r =>
    obtain ⟨k1,k2,k3⟩:=drop_cons hr
    have hrl:r.length+1+nl s=s.length:=by
      have:=congrArg List.length hr
      rw [List.length_drop,List.length_cons] at this
      omega
    have hx:(123 :: s)[1+nl s]? = some mk:=by rw [show 1+nl s=nl s+1 by omega]; simpa using k2
    have hw:IntKind.i64.wrap (((1+nl s:Nat):Int)+1)=((1+nl s+1:Nat):Int):=wrap_succ (by omega)
    have hz4:(((123 :: s).drop (1+nl s+1)).take (((123:UInt8) :: s).length - (1+nl s+1)))=r:=by
      rw [show 1+nl s+1=(nl s+1)+1 by omega,List.drop_succ_cons,k3,List.take_of_length_le (by omega)]
    have hnm:(((123 :: s).drop (1:Int).toNat).take (1+nl s - (1:Int).toNat))=s.take (nl s):=by
      show (s.take (1+nl s - 1))=_
      rw [show 1+nl s - 1=nl s by omega]
    rw [show (((1+nl s:Nat):Int) == (((123:UInt8) :: s).length:Int))=false from beq_eq_false_iff_ne.2 (by omega),cond_false,chk_pos ⟨by omega,by omega,by omega⟩,chk_pos ⟨by omega,by omega⟩,hw,chk_pos ⟨by omega,by omega,by omega⟩]
    simp only [nat_toNat,getD_of hx,lett_eq,hz4,hnm,e125,e63]
    simp only [show ((mk.toNat:Int) != (125:Int))=(mk != 125) by rw [bne,e125]; rfl,show ((mk.toNat:Int) != (63:Int))=(mk != 63) by rw [bne,e63]; rfl,show ((mk.toNat:Int) != (33:Int))=(mk != 33) by rw [bne,e33]; rfl]
    obtain ⟨r0,r1,rfl⟩:∃ r0 r1,row=[r0,r1]:=by
      match row,hrow with
      | [r0,r1],_=>exact ⟨r0,r1,rfl⟩
    have hfield:(vary_merger_field F (s.take (nl s)) fs2 rows [r0,r1] r o=some ([],6,fs2,rows,[r0,r1],r,o)∧lk [r0,r1] (s.take (nl s))=none) ∨
        ∃ v,vary_merger_field F (s.take (nl s)) fs2 rows [r0,r1] r o=some (v,0,fs2,rows,[r0,r1],r,o)∧lk [r0,r1] (s.take (nl s))=some v∧v.length≤10000:=by
      unfold vary_merger_field
      rw [vfield_idx F (by omega)]
      unfold fi lk
      cases s.take (nl s) == [97]
      · cases s.take (nl s) == [98,50]
        · exact .inl ⟨rfl,rfl⟩
        · exact .inr ⟨r1,by rw [call_some]; rfl,rfl,hv r1 (by simp)⟩
      · exact .inr ⟨r0,by rw [call_some]; rfl,rfl,hv r0 (by simp)⟩
    rcases hfield with ⟨f1,f2⟩ | ⟨v,f1,f2,hvl⟩
    · rw [f1,f2,call_some]
      simp only
      cases (bif (bif mk != 125 then mk != 63 else false) then mk != 33 else false)
      · exact ⟨6,r,o,rfl,.inr ⟨rfl,rfl⟩⟩
      · exact ⟨5,r,o,rfl,.inr ⟨rfl,rfl⟩⟩
    · rw [f1,f2,call_some]
      simp only
      cases (bif (bif mk != 125 then mk != 63 else false) then mk != 33 else false)
      rotate_left
      · exact ⟨5,r,o,rfl,.inr ⟨rfl,rfl⟩⟩
      rw [cond_false,cond_false,show ((0:Int) != 0)=false from rfl,cond_false]
      have hfu:∀ st o,mg [r0,r1] s.length r st o=MG [r0,r1] r st o:=fun st o=>mg_fuel _ _ _ _ _ _ (by omega) (by omega)
      cases mk == 125
      rotate_left
      · rw [cond_true,cond_true,vput F v b st _ _ _ _ _ hvl,call_some,hfu]
        exact ⟨0,r,putS o (b :: st) v,rfl,.inl ⟨rfl,by omega,put_le hvl ho,R.refl _⟩⟩
      rw [cond_false,cond_false]
      rcases Nat.lt_or_ge d 16 with h16 | h16
      · rw [show ((d:Int) == 16)=false from beq_eq_false_iff_ne.2 (by omega),cond_false,decide_eq_false (by simp only [List.length_cons]; omega),cond_false,wrap_succ (by omega),hfu]
        obtain ⟨e,t',o',q1,q2⟩:=hrec h16 (bif b then ((!(v == [])) == (mk == 63)) else false) (b :: st) r o (by simp only [List.length_cons]; omega) (by omega) ho
        rw [q1,call_some]
        refine ⟨e,t',o',rfl,?_⟩
        rcases q2 with ⟨_,q,_⟩ | ⟨_,q⟩ | q
        · omega
        · rcases q with ⟨a1,a2,a3,a4⟩ | q
          · exact .inl ⟨a1,by omega,a3,a4⟩
          · exact .inr q
        · exact .inr q
      · rw [show ((d:Int) == 16)=true from beq_iff_eq.2 (by omega),cond_true,decide_eq_true (by simp only [List.length_cons]; omega),cond_true]
        exact ⟨15,r,o,rfl,.inr ⟨rfl,rfl⟩⟩
end Go.Vm.MrgG
