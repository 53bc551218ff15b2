/-
  vary.Parse,plain law 1: the reference's table as a recursion on the rest.
-/
import Derived.Test.YtfiggijjdmbafaaDoorMrgF
import Derived.Test.YtfiggijjdmbafaaDoorVmD
import Derived.Test.YtfiggijjdmbafaaDoorVmC
namespace Go.Vm.MrgG
theorem nat_toNat (i:Nat):((i:Nat):Int).toNat=i:=rfl
theorem getD_head {s:List UInt8} {i:Nat} (hi:i < s.length):s.drop i=s.getD i 0 :: s.drop (i+1):=by
  rw [List.getD_eq_getElem?_getD,List.getElem?_eq_getElem hi]
  exact List.drop_eq_getElem_cons hi
theorem eqb (c k:UInt8):((c.toNat:Int) == (k.toNat:Int))=(c == k):=by
  rw [Bool.eq_iff_iff]
  simp only [beq_iff_eq]
  exact ⟨fun h=>UInt8.toNat.inj (by exact_mod_cast h),fun h=>by rw [h]⟩
theorem e34 (c:UInt8):((c.toNat:Int) == (34:Int))=(c == 34):=eqb c 34
theorem e44 (c:UInt8):((c.toNat:Int) == (44:Int))=(c == 44):=eqb c 44
theorem e10 (c:UInt8):((c.toNat:Int) == (10:Int))=(c == 10):=eqb c 10
theorem n34 (c:UInt8):((c.toNat:Int) != (34:Int))=(c != 34):=by rw [bne,e34]; rfl
def tbl:List UInt8→List (List (List UInt8))→List (List UInt8)→List UInt8→Int→Option (List (List (List UInt8))×List (List UInt8)×Int)
  | [],o,r,_,m=>some (o,r,m)
  | c :: s,o,r,v,m =>
    bif (bif m == 2 then c == 34 else false) then tbl s o r v 3
    else bif m == 2 then tbl s o r (v++[c]) m
    else bif (bif m == 3 then c == 34 else false) then tbl s o r (v++[34]) 2
    else bif (bif m == 0 then c == 34 else false) then tbl s o r v 2
    else bif (bif c == 44 then true else c == 10) then
      bif m == 0 then none
      else bif c == 10 then tbl s (o++[r++[v]]) [] [] 0
      else tbl s o (r++[v]) [] 0
    else bif (bif c == 34 then true else m == 3) then none
    else tbl s o r (v++[c]) 1
def tres:Option (List (List (List UInt8))×List (List UInt8)×Int)→Out (List (List (List UInt8))×List (List UInt8)×Int) (List (List (List UInt8))×Bool)
  | some x=>.go x
  | none=>.esc ([],false)
theorem one_at {s:List UInt8} {i:Nat} (hi:i < s.length):(s.drop i).take (i+1 - i)=[s.getD i 0]:=by
  rw [getD_head hi,show i+1 - i=1 by omega]
  rfl
theorem tab_L0 (F:Nat) (s:List UInt8) (hs:s.length≤4294967296):∀ (t:List UInt8) (n i:Nat) o r v m,s.drop i=t→i≤s.length→t.length < n →
    o.length≤i→r.length≤i→v.length≤i→ref3_Table_L0 F s n o r v m i=some (tres (tbl t o r v m)):=by
  intro t
  induction t with
  | nil =>
    intro n i o r v m ht hi hn _ _ _
    obtain ⟨n,rfl⟩:∃ k,n=k+1:=⟨n - 1,by omega⟩
    have:i=s.length:=by have:=List.drop_eq_nil_iff.1 ht; omega
    subst this
    rw [ref3_Table_L0,dec_end,cond_false]
    rfl
  | cons c t ih =>
    intro n i o r v m ht hi hn ho hr hv
    simp only [List.length_cons] at hn
    obtain ⟨n,rfl⟩:∃ k,n=k+1:=⟨n - 1,by omega⟩
    have hlt:i < s.length:=by
      rcases Nat.lt_or_ge i s.length with h | h
      · exact h
      · rw [List.drop_eq_nil_iff.2 h] at ht; cases ht
    have hh:=getD_head hlt
    rw [ht] at hh
    obtain ⟨hc,ht'⟩:c=s.getD i 0∧t=s.drop (i+1):=by injection hh with a b; exact ⟨a,b⟩
    have IH:=fun o r v m (a:o.length≤i+1) (b:r.length≤i+1) (d:v.length≤i+1)=>ih n (i+1) o r v m ht'.symm hlt (by omega) a b d
    have one:=one_at hlt
    rw [← hc] at one
    rw [ref3_Table_L0,dec_lt hlt,cond_true,chk_in hlt,wrap_succ (by omega)]
    simp only [nat_toNat,← hc,e34,e44,e10,one]
    rw [tbl]
    cases h1:(bif m == 2 then c == 34 else false)
    rotate_left
    · exact IH o r v 3 (by omega) (by omega) (by omega)
    rw [cond_false,cond_false]
    cases h2:m == 2
    rotate_left
    · rw [cond_true,chk_pos ⟨by omega,by omega,by omega⟩,chk_pos (by simp only [List.length_singleton]; omega)]
      exact IH o r (v++[c]) m (by omega) (by omega) (by simp only [List.length_append,List.length_singleton]; omega)
    rw [cond_false,cond_false]
    cases h3:(bif m == 3 then c == 34 else false)
    rotate_left
    · rw [cond_true,chk_pos (by simp only [List.length_singleton]; omega)]
      exact IH o r (v++[34]) 2 (by omega) (by omega) (by simp only [List.length_append,List.length_singleton]; omega)
    rw [cond_false,cond_false]
    cases h4:(bif m == 0 then c == 34 else false)
    rotate_left
    · exact IH o r v 2 (by omega) (by omega) (by omega)
    rw [cond_false,cond_false,lett_eq]
    cases h5:(bif c == 44 then true else c == 10)
    rotate_left
    · rw [cond_true,cond_true]
      cases h6:m == 0
      rotate_left
      · rfl
      rw [cond_false,cond_false,chk_pos (by simp only [List.length_singleton]; omega)]
      cases h7:c == 10
      · exact IH o (r++[v]) [] 0 (by omega) (by simp only [List.length_append,List.length_singleton]; omega) (by simp)
      · rw [cond_true,chk_pos (by simp only [List.length_singleton]; omega)]
        exact IH (o++[r++[v]]) [] [] 0 (by simp only [List.length_append,List.length_singleton]; omega) (by simp) (by simp)
    rw [cond_false,cond_false]
    cases h6:(bif c == 34 then true else m == 3)
    rotate_left
    · rfl
    rw [cond_false,cond_false,chk_pos ⟨by omega,by omega,by omega⟩,chk_pos (by simp only [List.length_singleton]; omega)]
    exact IH o r (v++[c]) 1 (by omega) (by omega) (by simp only [List.length_append,List.length_singleton]; omega)
/-- Whether the table is read. -/
def good:Option (List (List (List UInt8))×List (List UInt8)×Int)→Bool
  | some (o,r,m)=>bif (bif (m == 0) then r.isEmpty else false) then decide ((o.length:Int) > (0:Int)) else false
  | none=>false
def got:Option (List (List (List UInt8))×List (List UInt8)×Int)→List (List (List UInt8))
  | some (o,_,_)=>o
  | none=>[]
theorem table_eq (F:Nat) (s:List UInt8) (hs:s.length≤4294967296) (hF:s.length < F):ref3_Table F s=some (got (tbl s [] [] [] 0),good (tbl s [] [] [] 0)):=by
  unfold ref3_Table
  have h:=tab_L0 F s hs s F 0 [] [] [] 0 rfl (by omega) hF (by simp) (by simp) (by simp)
  rw [show ((0:Nat):Int)=0 from rfl] at h
  rw [h]
  cases tbl s [] [] [] 0 with
  | none=>rfl
  | some x=>obtain ⟨o,r,m⟩:=x; rfl
end Go.Vm.MrgG
