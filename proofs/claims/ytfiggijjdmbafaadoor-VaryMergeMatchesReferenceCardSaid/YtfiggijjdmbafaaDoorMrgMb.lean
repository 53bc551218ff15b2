/-
  vary.Merge,plain law 2: the reference computes the filling.
-/
import Derived.Test.YtfiggijjdmbafaaDoorMrgMa
namespace Go.Vm.MrgG
abbrev fs2:List (List UInt8):=[[97],[98,50]]
def mres:(List UInt8×List Bool) ⊕ Int→Out (List UInt8×List Bool) (List UInt8×Int)
  | .inl (o,st)=>.go (o,st.reverse)
  | .inr e=>.esc ([],e)
theorem rev_last (b:Bool) (t:List Bool):((b :: t).reverse).getD ((b :: t).length - 1) false=b:=by
  rw [List.reverse_cons]
  have h:(b :: t).length - 1=t.reverse.length:=by simp
  rw [h,List.getD_eq_getElem?_getD,List.getElem?_append_right (by omega)]
  simp
theorem rev_pop (b:Bool) (t:List Bool):((b :: t).reverse).take ((b :: t).length - 1)=t.reverse:=by
  rw [List.reverse_cons]
  have h:(b :: t).length - 1=t.reverse.length:=by simp
  rw [h,List.take_left]
theorem put_c1 (F:Nat) (x o:List UInt8) (b:Bool) (t:List Bool) (ht:t.length≤100) (hx:x.length≤10000) (ho:o.length≤20000) :
    ref3_Merged_c1 F x (b :: t).reverse o=some ((b :: t).reverse,putS o (b :: t) x):=by
  unfold ref3_Merged_c1 putS
  have hw:IntKind.i64.wrap ((((b :: t).reverse).length:Int) - 1)=(((b :: t).length - 1:Nat):Int):=by
    rw [List.length_reverse,wrap_pred (by simp) (by simp only [List.length_cons]; omega)]
  rw [hw,chk_pos ⟨by omega,by rw [List.length_reverse]; simp only [List.length_cons]; omega⟩,nat_toNat,rev_last,lett_eq]
  show (bif (bif b then decide ((o.length:Int)≤8192) else false) then _ else _)=_
  rw [show (b :: t).headD false=b from rfl]
  cases (bif b then decide ((o.length:Int)≤8192) else false)
  · rfl
  · rw [cond_true,cond_true,chk_pos (by omega)]
theorem put_le {o:List UInt8} {st:List Bool} {x:List UInt8} (hx:x.length≤10000) (ho:o.length≤20000):(putS o st x).length≤20000:=by
  unfold putS
  cases h:(bif st.headD false then decide ((o.length:Int)≤8192) else false)
  · exact ho
  · cases hs:st.headD false
    · rw [hs] at h; cases h
    · rw [hs,cond_true] at h
      have:=of_decide_eq_true h
      rw [cond_true,List.length_append]
      omega
/-- The field of a name. -/
def fi (x:List UInt8):Int:=bif x == [97] then 0 else bif x == [98,50] then 1 else -1
theorem field_L5 (F:Nat) (a:List UInt8) (v2 v3:Int) (hF:3≤F) (x:List UInt8) (h1:0≤(IntKind.i64.wrap (v2+(1:Int)))∧(IntKind.i64.wrap (v2+(1:Int)))≤v3∧v3≤(a.length:Int))
    (hx:(a.drop (IntKind.i64.wrap (v2+(1:Int))).toNat).take (v3.toNat - (IntKind.i64.wrap (v2+(1:Int))).toNat)=x):ref3_Merged_L5 F a fs2 v2 v3 F (-1) 0=some (fi x):=by
  obtain ⟨n,hn⟩:∃ n,F=n+3:=⟨F - 3,by omega⟩
  have e0:ref3_Merged_L5 F a fs2 v2 v3 (n+3) (-1) 0=ref3_Merged_L5 F a fs2 v2 v3 (n+2) (bif ([97]:List UInt8) == x then 0 else -1) 1:=by
    rw [ref3_Merged_L5,show decide ((0:Int) < (fs2.length:Int))=true from rfl,cond_true,chk_pos ⟨by decide,by decide⟩,chk_pos h1,hx,lett_eq]
    rw [show fs2.getD (0:Int).toNat []=[97] from rfl]
    cases ([97]:List UInt8) == x <;> rfl
  have e1:∀ v,ref3_Merged_L5 F a fs2 v2 v3 (n+2) v 1=ref3_Merged_L5 F a fs2 v2 v3 (n+1) (bif ([98,50]:List UInt8) == x then 1 else v) 2:=by
    intro v
    rw [ref3_Merged_L5,show decide ((1:Int) < (fs2.length:Int))=true from rfl,cond_true,chk_pos ⟨by decide,by decide⟩,chk_pos h1,hx,lett_eq]
    rw [show fs2.getD (1:Int).toNat []=[98,50] from rfl]
    cases ([98,50]:List UInt8) == x <;> rfl
  have e2:∀ v,ref3_Merged_L5 F a fs2 v2 v3 (n+1) v 2=some v:=by
    intro v
    rw [ref3_Merged_L5,show decide ((2:Int) < (fs2.length:Int))=false from rfl,cond_false]
  have:ref3_Merged_L5 F a fs2 v2 v3 (n+3) (-1) 0=some (fi x):=by
    rw [e0,e1,e2]
    unfold fi
    rw [show (([97]:List UInt8) == x)=(x == [97]) from BEq.comm,show (([98,50]:List UInt8) == x)=(x == [98,50]) from BEq.comm]
    cases ha:x == [97]
    · rfl
    · have:x=[97]:=by simpa using ha
      subst this; rfl
  rw [hn] at this ⊢
  exact this
theorem merged_L0 (F:Nat) (a:List UInt8) (row:List (List UInt8)) (hrow:row.length=2) (hv:∀ x∈row,x.length≤10000) (hs:a.length≤8192) (hF:8200 < F):∀ (m:Nat) (t:List UInt8) (i:Nat) (st:List Bool) (o:List UInt8),
    a.drop i=t→i≤a.length→t.length≤m→st≠[]→st.length≤17→o.length≤20000→ref3_Merged_L0 F a fs2 row (m+1) o st.reverse i=some (mres (mg row m t st o)):=by
  intro m
  induction m with
  | zero =>
    intro t i st o ht hi hm _ _ _
    have:t=[]:=List.length_eq_zero_iff.1 (by omega)
    subst this
    have:=drop_nil ht hi
    subst this
    rw [ref3_Merged_L0,dec_end,cond_false]
    rfl
  | succ m ih =>
    intro t i st o ht hi hm hst hst17 ho
    cases t with
    | nil =>
      have:=drop_nil ht hi
      subst this
      rw [ref3_Merged_L0,dec_end,cond_false]
      rfl
    | cons c s =>
      simp only [List.length_cons] at hm
      obtain ⟨hlt,hx,hs'⟩:=drop_cons ht
      have hsl:s.length=a.length - (i+1):=by rw [← hs',List.length_drop]
      obtain ⟨b,st',rfl⟩:∃ b st',st=b :: st':=by
        cases st with
        | nil=>exact absurd rfl hst
        | cons b st'=>exact ⟨b,st',rfl⟩
      have hst17':=hst17
      simp only [List.length_cons] at hst17'
      have hg1:∀ x,a.getD (i+1) 0=x→True:=fun _ _=>trivial
      rw [ref3_Merged_L0,dec_lt hlt,cond_true,wrap_succ (show i < 9223372036854775807 by omega),mg]
      have hci:∀ (b:Bool) (k:Option (Out (List UInt8×List Bool) (List UInt8×Int))),chk (b=true→0≤(i:Int)∧(i:Int) < (a.length:Int)) k=k:=fun p k=>chk_pos fun _=>⟨by omega,by omega⟩
      have hci1:∀ (k:Option (Out (List UInt8×List Bool) (List UInt8×Int))),chk (((decide (((i+1:Nat):Int) < (a.length:Int))) == true && true)=true→0≤((i+1:Nat):Int)∧((i+1:Nat):Int) < (a.length:Int)) k=k:=fun k=>chk_pos fun h=>by
        have:decide (((i+1:Nat):Int) < (a.length:Int))=true:=by simpa using h
        exact ⟨by omega,of_decide_eq_true this⟩
      have hcin:∀ (k:Option (Out (List UInt8×List Bool) (List UInt8×Int))),chk (0≤(i:Int)∧(i:Int) < (a.length:Int)) k=k:=fun k=>chk_pos ⟨by omega,by omega⟩
      simp only [hci,hci1,hcin,nat_toNat,getD_of hx,lett_eq,e123,e125]
      have htwo:(bif (bif c == 123 then true else c == 125) then (bif (decide (((i+1:Nat):Int) < (a.length:Int))) then (((a.getD (i+1) 0).toNat:Int) == (c.toNat:Int)) else false) else false)=two c s:=by
        unfold two
        rw [ecc]
        cases (bif c == 123 then true else c == 125)
        · rfl
        · show (bif _ then _ else false)=_
          cases s with
          | nil =>
            rw [decide_eq_false (by simp only [List.length_nil] at hsl; omega)]; rfl
          | cons d s2 =>
            obtain ⟨h1,h2,_⟩:=drop_cons hs'
            rw [decide_eq_true (by omega),getD_of h2]
            show (d == c)=(some d == some c)
            rfl
      rw [htwo]
      have one:=one_at hlt
      rw [getD_of hx] at one
      cases h1:two c s
      rotate_left
      · have hlen:i+1 < a.length:=by
          unfold two at h1
          cases s with
          | nil=>cases h:(bif c == 123 then true else c == 125) <;> rw [h] at h1 <;> cases h1
          | cons d s2=>exact (drop_cons hs').1
        rw [cond_true,cond_true,chk_pos ⟨by omega,by omega,by omega⟩,one,put_c1 F [c] o b st' (by omega) (by simp) ho,call_some]
        rw [show IntKind.i64.wrap ((i:Int)+2)=((i+2:Nat):Int) by rw [wrap_id (by omega)]; rfl]
        have:s.tail=a.drop (i+2):=by rw [← hs',List.tail_drop]
        exact ih s.tail (i+2) (b :: st') _ this.symm hlen (by rw [List.length_tail]; omega) hst hst17 (put_le (by simp) ho)
      rw [cond_false,cond_false]
      have hl1:((((b :: st').reverse).length:Int) == 1)=(((b :: st').length:Int) == 1):=by rw [List.length_reverse]
      rw [hl1]
      cases h2:c == 125
      rotate_left
      · rw [cond_true,cond_true]
        cases h3:(((b :: st').length:Int) == 1)
        · simp only [cond_false,cond_true]
          have hw:IntKind.i64.wrap ((((b :: st').reverse).length:Int) - 1)=(((b :: st').length - 1:Nat):Int):=by
            rw [List.length_reverse,wrap_pred (by simp) (by simp only [List.length_cons]; omega)]
          rw [hw,chk_pos ⟨by omega,by rw [List.length_reverse]; omega⟩,nat_toNat,rev_pop]
          have hne:st'≠[]:=by rintro rfl; cases h3
          exact ih s (i+1) st' o hs' hlt (by omega) hne (by omega) ho
        · rfl
      rw [cond_false,cond_false,cond_false,cond_false]
      rw [show ((c.toNat:Int) != (123:Int))=(c != 123) by rw [bne,e123]; rfl]
      cases h3:c != 123
      rotate_left
      · rw [cond_true,cond_true,chk_pos ⟨by omega,by omega,by omega⟩,one,put_c1 F [c] o b st' (by omega) (by simp) ho,call_some]
        exact ih s (i+1) (b :: st') _ hs' hlt (by omega) hst hst17 (put_le (by simp) ho)
      rw [cond_false,cond_false]
      have hnl:=nl_le s
      rw [name_L3 F a (by omega) s F (i+1) hs' hlt (by omega),call_some]
      have hdrop:s.drop (nl s)=a.drop (i+1+nl s):=by rw [← hs',List.drop_drop]
      cases hr:s.drop (nl s) with
      | nil =>
        have:nl s=s.length:=by have:=List.drop_eq_nil_iff.1 hr; omega
        rw [show (((i+1+nl s:Nat):Int) == (a.length:Int))=true from beq_iff_eq.2 (by omega)]
        rfl
      | cons mk r =>
        rw [hr] at hdrop
        obtain ⟨k1,k2,k3⟩:=drop_cons hdrop.symm
        rw [show (((i+1+nl s:Nat):Int) == (a.length:Int))=false from beq_eq_false_iff_ne.2 (by omega),cond_false]
        have hck:∀ (b:Bool) (k:Option (Out (List UInt8×List Bool) (List UInt8×Int))),chk (b=true→0≤((i+1+nl s:Nat):Int)∧((i+1+nl s:Nat):Int) < (a.length:Int)) k=k:=fun p k=>chk_pos fun _=>⟨by omega,by omega⟩
        have hckn:∀ (k:Option (Out (List UInt8×List Bool) (List UInt8×Int))),chk (0≤((i+1+nl s:Nat):Int)∧((i+1+nl s:Nat):Int) < (a.length:Int)) k=k:=fun k=>chk_pos ⟨by omega,by omega⟩
        simp only [hck,hckn,nat_toNat,getD_of k2,lett_eq]
        simp only [show ((mk.toNat:Int) != (125:Int))=(mk != 125) by rw [bne,e125]; rfl,show ((mk.toNat:Int) != (63:Int))=(mk != 63) by rw [bne,e63]; rfl,show ((mk.toNat:Int) != (33:Int))=(mk != 33) by rw [bne,e33]; rfl,e63,e125]
        cases h4:(bif (bif mk != 125 then mk != 63 else false) then mk != 33 else false)
        rotate_left
        · rfl
        rw [cond_false,cond_false]
        have hname:(a.drop (IntKind.i64.wrap ((i:Int)+(1:Int))).toNat).take ((((i+1+nl s:Nat):Int)).toNat - (IntKind.i64.wrap ((i:Int)+(1:Int))).toNat)=s.take (nl s):=by
          rw [wrap_succ (by omega),nat_toNat,nat_toNat,hs',show i+1+nl s - (i+1)=nl s by omega]
        rw [field_L5 F a (i:Int) ((i+1+nl s:Nat):Int) (by omega) (s.take (nl s)) (by rw [wrap_succ (by omega)]; exact ⟨by omega,by omega,by omega⟩) hname,call_some]
        obtain ⟨r0,r1,rfl⟩:∃ r0 r1,row=[r0,r1]:=by
          match row,hrow with
          | [r0,r1],_=>exact ⟨r0,r1,rfl⟩
        have hrl:r.length < m+1:=by
          have:r.length=a.length - (i+1+nl s+1):=by rw [← k3,List.length_drop]
          omega
        have goon:∀ (v:List UInt8) (f:Int),(f=0∧v=r0∨f=1∧v=r1)→fi (s.take (nl s))=f→lk [r0,r1] (s.take (nl s))=some v→_:=fun v f hf hfi hlk=>(⟨hf,hfi,hlk⟩:(f=0∧v=r0∨f=1∧v=r1)∧fi (s.take (nl s))=f∧lk [r0,r1] (s.take (nl s))=some v)
        have hcase:(fi (s.take (nl s)) = -1∧lk [r0,r1] (s.take (nl s))=none)∨∃ v f,(f=0∧v=r0∨f=1∧v=r1)∧fi (s.take (nl s))=f∧lk [r0,r1] (s.take (nl s))=some v:=by
          unfold fi lk
          cases s.take (nl s) == [97]
          · cases s.take (nl s) == [98,50]
            · exact .inl ⟨rfl,rfl⟩
            · exact .inr ⟨r1,1,.inr ⟨rfl,rfl⟩,rfl,rfl⟩
          · exact .inr ⟨r0,0,.inl ⟨rfl,rfl⟩,rfl,rfl⟩
        rcases hcase with ⟨f1,f2⟩ | ⟨v,f,hf,f1,f2⟩
        · rw [f1,f2]; rfl
        · rw [f1,f2]
          have hvl:v.length≤10000:=by
            rcases hf with ⟨_,rfl⟩ | ⟨_,rfl⟩
            · exact hv v (by simp)
            · exact hv v (by simp)
          have hf0:decide (f < 0)=false:=by rcases hf with ⟨rfl,_⟩ | ⟨rfl,_⟩ <;> rfl
          have hfd:([r0,r1]:List (List UInt8)).getD f.toNat []=v:=by rcases hf with ⟨rfl,rfl⟩ | ⟨rfl,rfl⟩ <;> rfl
          have hfc:0≤f∧f < (([r0,r1]:List (List UInt8)).length:Int):=by rcases hf with ⟨rfl,_⟩ | ⟨rfl,_⟩ <;> exact ⟨by decide,by simp⟩
          rw [hf0,cond_false,chk_pos hfc,hfd]
          have hw3:IntKind.i64.wrap (((i+1+nl s:Nat):Int)+1)=((i+1+nl s+1:Nat):Int):=wrap_succ (by omega)
          simp only
          cases h5:mk == 125
          rotate_left
          · rw [cond_true,cond_true,put_c1 F v o b st' (by omega) hvl ho,call_some,callE_go]
            simp only
            rw [hw3]
            exact ih r (i+1+nl s+1) (b :: st') _ k3 k1 (by omega) hst hst17 (put_le hvl ho)
          rw [cond_false,cond_false,List.length_reverse]
          cases h6:decide (((b :: st').length:Int) > 16)
          rotate_left
          · rfl
          have h6':=of_decide_eq_false h6
          simp only [List.length_cons] at h6'
          have hw:IntKind.i64.wrap (((b :: st').length:Int) - 1)=(((b :: st').length - 1:Nat):Int):=wrap_pred (by simp) (by simp only [List.length_cons]; omega)
          rw [cond_false,cond_false,hw,chk_pos ⟨by omega,by simp only [List.length_cons]; omega⟩,nat_toNat,rev_last,chk_pos (by simp only [List.length_cons,List.length_nil]; omega),callE_go]
          simp only
          rw [hw3]
          have:=ih r (i+1+nl s+1) ((bif b then ((!(v == [])) == (mk == 63)) else false) :: b :: st') o k3 k1 (by omega) (by simp) (by simp only [List.length_cons]; omega) ho
          rw [List.reverse_cons (as:=b :: st')] at this
          exact this
end Go.Vm.MrgG
