/-
  REFS,PLAIN: sorted rows of integers without repetition.
-/
import Derived.Test.YtkoocklcgndanaaDoorVmD
import Derived.Test.YtkoocklcgndanaaDoorVmC
import Derived.Sort.Defs
namespace Go.Vm.SubG
open Go.Lib Go.Sort
theorem sortI_sorted (l:List Int):(sortI l).Pairwise (fun x y=>x≤y):=by
 have h:=List.pairwise_mergeSort (le:=fun x y:Int=>decide (x≤y)) (fun a b c h1 h2=>by
  simp only [decide_eq_true_eq] at *; omega) (fun a b=>by
  simp only [Bool.or_eq_true,decide_eq_true_eq]; omega) l
 exact h.imp fun {a b} hab=>by simpa using hab
theorem mem_sortI {l:List Int} {x:Int}:x∈sortI l↔x∈l:=by
 unfold sortI
 exact List.mem_mergeSort
theorem toArrI (F:List Int) (j:Nat) (h:j < F.length):F.toArray[j]! = F[j]:=by
 rw [getElem!_pos F.toArray j (by simpa using h)]
 simp
theorem compactUpToI_ok {d:Array Int} (hd:∀ i j,i < j→j < d.size→d[i]! ≤ d[j]!):∀ m,m≤d.size→(∀ x,x∈compactUpTo d m↔∃ j,j < m∧d[j]! = x)∧(compactUpTo d m).Pairwise (fun x y=>x < y):=by
 intro m
 induction m with
 | zero=>intro _; exact ⟨fun x=>by simp [compactUpTo],by simp [compactUpTo]⟩
 | succ m ih =>
  intro hm
  obtain ⟨h1,h2⟩:=ih (by omega)
  rw [compactUpTo_succ]
  by_cases hk:keeps d m=true
  ·rw [if_pos hk]
   refine ⟨fun x=>?_,?_⟩
   ·rw [List.mem_append,h1,List.mem_singleton]
    constructor
    ·rintro (⟨j,hj,e⟩ | e)
     ·exact ⟨j,by omega,e⟩
     ·exact ⟨m,by omega,e.symm⟩
    ·rintro ⟨j,hj,e⟩
     by_cases hjm:j=m
     ·subst hjm; exact .inr e.symm
     ·exact .inl ⟨j,by omega,e⟩
   ·rw [List.pairwise_append]
    refine ⟨h2,List.pairwise_singleton _ _,fun x hx y hy=>?_⟩
    rw [List.mem_singleton] at hy
    subst hy
    obtain ⟨j,hj,rfl⟩:=(h1 x).1 hx
    have hne:d[m]! ≠ d[m - 1]! := by
     unfold keeps at hk
     rcases of_decide_eq_true hk with h | h
     ·omega
     ·exact h
    have hlt:d[m - 1]! < d[m]! := by have:=hd (m - 1) m (by omega) (by omega); omega
    by_cases hj1:j=m - 1
    ·rw [hj1]; exact hlt
    ·have:=hd j (m - 1) (by omega) (by omega); omega
  ·rw [if_neg hk,List.append_nil]
   refine ⟨fun x=>?_,h2⟩
   rw [h1]
   constructor
   ·rintro ⟨j,hj,e⟩
    exact ⟨j,by omega,e⟩
   ·rintro ⟨j,hj,e⟩
    by_cases hjm:j=m
    ·subst hjm
     unfold keeps at hk
     have hk2:¬ (j=0∨d[j]! ≠ d[j - 1]!):=fun h=>hk (decide_eq_true h)
     have hj0:j≠0:=fun h=>hk2 (.inl h)
     have he:d[j]! = d[j - 1]! := Classical.not_not.1 fun h=>hk2 (.inr h)
     exact ⟨j - 1,by omega,by rw [← he]; exact e⟩
    ·exact ⟨j,by omega,e⟩
theorem compactI_ok (l:List Int):(∀ x,x∈Lib.compact (sortI l)↔x∈l)∧(Lib.compact (sortI l)).Pairwise (fun x y=>x < y):=by
 have hs:=sortI_sorted l
 rw [List.pairwise_iff_getElem] at hs
 obtain ⟨h1,h2⟩:=compactUpToI_ok (d:=(sortI l).toArray) (fun i j hij hj=>by
  have hj':j < (sortI l).length:=by simpa using hj
  have:=hs i j (by omega) hj' hij
  rw [getElem!_pos (sortI l).toArray j hj,getElem!_pos (sortI l).toArray i (by omega)]
  simpa using this) (sortI l).length (by simp)
 refine ⟨fun x=>?_,h2⟩
 have h3:x∈Lib.compact (sortI l)↔∃ j,j < (sortI l).length∧(sortI l).toArray[j]! = x:=h1 x
 rw [h3,← mem_sortI (l:=l)]
 constructor
 ·rintro ⟨j,hj,rfl⟩
  rw [toArrI (sortI l) j hj]
  exact List.getElem_mem hj
 ·intro hx
  obtain ⟨j,hj,rfl⟩:=List.getElem_of_mem hx
  exact ⟨j,hj,toArrI _ _ hj⟩
end Go.Vm.SubG
