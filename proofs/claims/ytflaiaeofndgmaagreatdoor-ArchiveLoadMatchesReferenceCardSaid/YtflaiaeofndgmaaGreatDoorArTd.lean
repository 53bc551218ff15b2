/-
  archive: places in lists,names in order,the pieces of data.
-/
import Derived.Test.YtflaiaeofndgmaaGreatDoorArMa
import Derived.Test.YtflaiaeofndgmaaGreatDoorArLc
import Derived.Test.YtflaiaeofndgmaaGreatDoorArLd
namespace Go.Vm.ArzG.L
open Go.Vm.ArzM
theorem dropA {α:Type} {l xs:List α} {x:α} {i:Nat} (h:l.drop i=x :: xs):i < l.length∧l[i]? = some x∧l.drop (i+1)=xs:=by
 have hl:i < l.length:=by
  rcases Nat.lt_or_ge i l.length with h' | h'
  ·exact h'
  ·rw [List.drop_eq_nil_of_le h'] at h; cases h
 have h2:=List.drop_eq_getElem_cons hl
 rw [h] at h2
 injection h2 with h3 h4
 exact ⟨hl,by rw [List.getElem?_eq_getElem hl,h3],h4.symm⟩
theorem index_L0 {F:Nat} (l:List (List UInt8)) (x:List UInt8) (hl:l.length≤4000000):∀ (xs:List (List UInt8)) (i n:Nat),l.drop i=xs→i+xs.length=l.length→xs.length < n →
  ∃ o,slices_Index_string_L0 F l x n (i:Int)=some o∧(o=.go ()∨∃ j:Nat,o=.esc (j:Int)∧l[j]? = some x)
 | [],i,n,hd,hl2,hn=>by
  obtain ⟨n,rfl⟩:∃ q,n=q+1:=⟨n - 1,by omega⟩
  have:i=l.length:=by simpa using hl2
  subst this
  exact ⟨.go (),by rw [slices_Index_string_L0,dec_end,cond_false],.inl rfl⟩
 | y :: r,i,n,hd,hl2,hn=>by
  obtain ⟨n,rfl⟩:∃ q,n=q+1:=⟨n - 1,by omega⟩
  obtain ⟨h1,h2,h3⟩:=dropA hd
  rw [slices_Index_string_L0,dec_lt h1,cond_true,chk_in h1,Int.toNat_natCast,getD_of h2]
  cases hq:(x == y) with
  | true =>
   have:x=y:=by simpa using hq
   subst this
   exact ⟨.esc (i:Int),rfl,.inr ⟨i,rfl,h2⟩⟩
  | false =>
   rw [cond_false,wrap_succ (by omega)]
   exact index_L0 l x hl r (i+1) n h3 (by simp at hl2; omega) (by simp at hn; omega)
theorem index_str {F:Nat} (l:List (List UInt8)) (x:List UInt8) (hl:l.length≤4000000) (hF:l.length < F):∃ i:Int,slices_Index_string F l x=some i∧(i = -1∨∃ j:Nat,i=(j:Int)∧l[j]? = some x):=by
 obtain ⟨o,h1,h2⟩:=index_L0 (F:=F) l x hl l 0 F rfl (by simp) hF
 unfold slices_Index_string
 rw [show (0:Int)=((0:Nat):Int) from rfl,h1]
 rcases h2 with rfl | ⟨j,rfl,h3⟩
 ·exact ⟨-1,rfl,.inl rfl⟩
 ·exact ⟨(j:Int),rfl,.inr ⟨j,rfl,h3⟩⟩
/-- The place of a number,or -1. -/
def atI (l:List Int) (k:Int):Int:=match pos l k with
 | some i=>(i:Int)
 | none => -1
theorem at_L0 {F:Nat} (l:List Int) (k:Int) (hl:l.length≤4000000):∀ (xs:List Int) (i n:Nat),l.drop i=xs→i+xs.length=l.length→xs.length < n →
  ref3_at_L0 F l k n (i:Int)=some (match pos xs k with | some j=>.esc ((i+j:Nat):Int) | none=>.go ())
 | [],i,n,hd,hl2,hn=>by
  obtain ⟨n,rfl⟩:∃ q,n=q+1:=⟨n - 1,by omega⟩
  have:i=l.length:=by simpa using hl2
  subst this
  rw [ref3_at_L0,dec_end,cond_false]
  rfl
 | y :: r,i,n,hd,hl2,hn=>by
  obtain ⟨n,rfl⟩:∃ q,n=q+1:=⟨n - 1,by omega⟩
  obtain ⟨h1,h2,h3⟩:=dropA hd
  rw [ref3_at_L0,dec_lt h1,cond_true,chk_in h1,Int.toNat_natCast,getD_of h2,pos]
  by_cases hq:y=k
  ·subst hq
   rw [beq_self_eq_true,cond_true,if_pos rfl]
   rfl
  ·rw [beq_eq_false_iff_ne.2 hq,cond_false,if_neg hq,wrap_succ (by omega),at_L0 l k hl r (i+1) n h3 (by simp at hl2; omega) (by simp at hn; omega)]
   cases pos r k with
   | none=>rfl
   | some j=>simp only [Option.map_some]; congr 3; omega
theorem at_eq {F:Nat} (l:List Int) (k:Int) (hl:l.length≤4000000) (hF:l.length < F):ref3_at F l k=some (atI l k):=by
 unfold ref3_at atI
 rw [show (0:Int)=((0:Nat):Int) from rfl,at_L0 l k hl l 0 F rfl (by simp) hF]
 cases pos l k with
 | none=>rfl
 | some j=>simp only [Nat.zero_add]; rfl
theorem hasText_L0 {F:Nat} (l:List (List UInt8)) (x:List UInt8) (hl:l.length≤4000000):∀ (xs:List (List UInt8)) (i n:Nat),l.drop i=xs→i+xs.length=l.length→xs.length < n →
  ref3_HasText_L0 F l x n (i:Int)=some (if xs.contains x=true then .esc true else .go ())
 | [],i,n,hd,hl2,hn=>by
  obtain ⟨n,rfl⟩:∃ q,n=q+1:=⟨n - 1,by omega⟩
  have:i=l.length:=by simpa using hl2
  subst this
  rw [ref3_HasText_L0,dec_end,cond_false]
  rfl
 | y :: r,i,n,hd,hl2,hn=>by
  obtain ⟨n,rfl⟩:∃ q,n=q+1:=⟨n - 1,by omega⟩
  obtain ⟨h1,h2,h3⟩:=dropA hd
  rw [ref3_HasText_L0,dec_lt h1,cond_true,chk_in h1,Int.toNat_natCast,getD_of h2,List.contains_cons]
  by_cases hq:y=x
  ·subst hq
   simp
  ·have hq2:¬ x=y:=fun e=>hq e.symm
   rw [beq_eq_false_iff_ne.2 hq,beq_eq_false_iff_ne.2 hq2,cond_false,Bool.false_or,wrap_succ (by omega)]
   exact hasText_L0 l x hl r (i+1) n h3 (by simp at hl2; omega) (by simp at hn; omega)
theorem hasText_eq {F:Nat} (l:List (List UInt8)) (x:List UInt8) (hl:l.length≤4000000) (hF:l.length < F):ref3_HasText F l x=some (l.contains x):=by
 unfold ref3_HasText
 rw [show (0:Int)=((0:Nat):Int) from rfl,hasText_L0 l x hl l 0 F rfl (by simp) hF]
 cases l.contains x <;> rfl
theorem sorted_L0 {F:Nat} {l:List (List UInt8)} (hs:Srt l) (hl:l.length≤4000000):∀ (n i:Nat),i < l.length∨i=0→i < n→slices_IsSorted_string_L0 F l n (i:Int)=some (.go ())
 | 0,i,_,h=>absurd h (Nat.not_lt_zero _)
 | n+1,0,_,_=>by rw [slices_IsSorted_string_L0]; rfl
 | n+1,i+1,h,hn=>by
  have h1:i+1 < l.length:=by omega
  rw [slices_IsSorted_string_L0,decide_eq_true (by omega),cond_true,chk_in h1,wrap_pred (by omega) (by omega),show i+1 - 1=i by omega,chk_in (by omega),less_str,call_some,Int.toNat_natCast,Int.toNat_natCast]
  have h2:=List.pairwise_iff_getElem.1 hs i (i+1) (by omega) h1 (by omega)
  have h3:Op.bytesLess (l.getD (i+1) []) (l.getD i [])=false:=by
   rw [getD_of (List.getElem?_eq_getElem h1),getD_of (List.getElem?_eq_getElem (show i < l.length by omega))]
   cases hq:Op.bytesLess l[i+1] l[i] with
   | false=>rfl
   | true =>
    have:=bL_trans h2 hq
    rw [bL_irr] at this
    cases this
  rw [h3,cond_false]
  exact sorted_L0 hs hl n i (by omega) (by omega)
theorem sorted_eq {F:Nat} {l:List (List UInt8)} (hs:Srt l) (hl:l.length≤4000000) (hF:l.length < F):slices_IsSorted_string F l=some true:=by
 unfold slices_IsSorted_string
 cases l with
 | nil =>
  obtain ⟨n,rfl⟩:∃ q,F=q+1:=⟨F - 1,by omega⟩
  rfl
 | cons x r =>
  rw [wrap_pred (by simp) (by omega),sorted_L0 hs hl F _ (.inl (by simp)) (by omega)]
  rfl
theorem pos_none {α:Type} [DecidableEq α] {a:α}:∀ {ks:List α},pos ks a=none↔a ∉ ks
 | []=>by simp [pos]
 | k :: r=>by
  rw [pos]
  by_cases h:k=a
  ·subst h
   simp
  ·have h2:¬ a=k:=fun e=>h e.symm
   rw [if_neg h,Option.map_eq_none_iff,pos_none,List.mem_cons]
   simp [h2]
theorem pos_nodup {α:Type} [DecidableEq α] {a:α}:∀ {ks:List α} {i:Nat},ks.Nodup→ks[i]? = some a→pos ks a=some i
 | [],i,_,h=>by simp at h
 | k :: r,0,_,h=>by
  simp at h
  rw [pos,if_pos h]
 | k :: r,i+1,hn,h=>by
  obtain ⟨h1,h2⟩:=List.nodup_cons.1 hn
  have h3:r[i]? = some a:=by simpa using h
  have h4:k≠a:=fun e=>h1 (e ▸ List.mem_of_getElem? h3)
  rw [pos,if_neg h4,pos_nodup h2 h3]
  rfl
theorem pk_min (s:List UInt8):∀ k n,min 32 s.length≤pk s k n
 | 0,_=>by rw [pk]; omega
 | k+1,n=>by
  rw [pk]
  split
  ·split
   ·omega
   ·exact pk_min s k (n+1)
  ·omega
/-- The lengths of pieces,one behind the other. -/
inductive Cut:List UInt8→List Int→Prop
 | nil:Cut [] []
 | cons {s:List UInt8} {n:Nat} {r:List Int} (h1:1≤n) (h2:n≤s.length) (h:Cut (s.drop n) r):Cut s ((n:Int) :: r)
theorem cuts_L0 {F:Nat} (hF:20000≤F):∀ (m:Nat) (s:List UInt8) (n:Nat) (acc:List Int),s.length≤m→m < n→s.length≤16384→acc.length+s.length≤16384 →
  ∃ l,archive_Cuts_L0 F n s acc=some (acc++l)∧Cut s l∧32 * l.length≤s.length+31
 | 0,s,n,acc,hs,hn,h1,h2=>by
  obtain ⟨n,rfl⟩:∃ m,n=m+1:=⟨n - 1,by omega⟩
  have:s=[]:=List.length_eq_zero_iff.1 (by omega)
  subst this
  exact ⟨[],by rw [List.append_nil]; rfl,.nil,by simp⟩
 | m+1,s,n,acc,hs,hn,h1,h2=>by
  obtain ⟨n,rfl⟩:∃ m,n=m+1:=⟨n - 1,by omega⟩
  by_cases h0:s.length=0
  ·have:s=[]:=List.length_eq_zero_iff.1 h0
   subst this
   exact ⟨[],by rw [List.append_nil]; rfl,.nil,by simp⟩
  ·have hne:(!(s == []))=true:=by
    cases s with
    | nil=>exact absurd rfl h0
    | cons x s=>rfl
   obtain ⟨c1,c2⟩:=cv_in s h0
   obtain ⟨c,hc⟩:∃ c:Nat,cv s=(c:Int):=⟨(cv s).toNat,by omega⟩
   have hm:min 32 s.length≤c:=by
    have:=pk_min s (s.length - 1) 1
    rw [cv,if_neg h0] at hc
    omega
   rw [hc] at c1 c2
   have hdt:(s.drop (c:Int).toNat).take ((s.length:Int).toNat - (c:Int).toNat)=s.drop c:=by
    simp only [Int.toNat_natCast]
    rw [List.take_of_length_le (by rw [List.length_drop]; omega)]
   obtain ⟨l,hl1,hl2,hl3⟩:=cuts_L0 hF m (s.drop c) n (acc++[(c:Int)]) (by rw [List.length_drop]; omega) (by omega) (by rw [List.length_drop]; omega) (by rw [List.length_append,List.length_drop]; simp; omega)
   refine ⟨(c:Int) :: l,?_,.cons (by omega) (by omega) hl2,?_⟩
   ·rw [archive_Cuts_L0,hne,cond_true,cut_law s h1 F hF,hc,call_some,chk_pos (by simp; omega),chk_pos ⟨by omega,c2,Int.le_refl _⟩,hdt,hl1]
    simp
   ·rw [List.length_drop] at hl3
    rw [List.length_cons]
    omega
theorem cuts_eq {F:Nat} (hF:20000≤F) {s:List UInt8} (hs:s.length≤16384):∃ l,archive_Cuts F s=some (l,0)∧Cut s l∧32 * l.length≤s.length+31:=by
 obtain ⟨l,h1,h2,h3⟩:=cuts_L0 hF s.length s F [] (Nat.le_refl _) (by omega) hs (by simpa using hs)
 refine ⟨l,?_,h2,h3⟩
 unfold archive_Cuts
 rw [decide_eq_false (by omega),cond_false,h1]
 rfl
theorem cuts_big {F:Nat} {s:List UInt8} (hs:16384 < s.length):archive_Cuts F s=some ([],2):=by
 unfold archive_Cuts
 rw [decide_eq_true (by omega),cond_true]
end Go.Vm.ArzG.L
