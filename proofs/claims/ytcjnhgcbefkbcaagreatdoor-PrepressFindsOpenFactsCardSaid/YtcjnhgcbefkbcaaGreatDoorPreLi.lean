/-
  PREPRESS,PLAIN,part 9: sorted names,each once.
-/
import Derived.Test.YtcjnhgcbefkbcaaGreatDoorPreLh
import Derived.Sort.Walk0
namespace Go.Vm.PreG
open Go.Lib
theorem le_iff (x y:List UInt8):decide (x≤y) = !(Op.bytesLess y x):=by
  rw [Go.Proofs.bytesLess_eq]
  by_cases h:y < x
  · rw [decide_eq_false (show ¬ x≤y from fun h2=>h2 h),decide_eq_true h]; rfl
  · rw [decide_eq_true (show x≤y from h),decide_eq_false h]; rfl
theorem le_lt {x y z:List UInt8} (h:Op.bytesLess y x=false) (h2:Op.bytesLess y z=true):Op.bytesLess x z=true:=by
  have h3:=bL_tri y x
  rw [h] at h3
  simp only [Bool.not_false,Bool.true_eq,Bool.or_eq_true,beq_iff_eq] at h3
  rcases h3 with h3 | h3
  · exact bL_trans h3 h2
  · rw [h3]; exact h2
theorem le_ne {x y:List UInt8} (h:Op.bytesLess y x=false) (h2:x≠y):Op.bytesLess x y=true:=by
  have h3:=bL_tri y x
  rw [h] at h3
  simp only [Bool.not_false,Bool.true_eq,Bool.or_eq_true,beq_iff_eq] at h3
  rcases h3 with h3 | h3
  · exact h3
  · exact absurd h3 h2
theorem le_le {x y z:List UInt8} (h:Op.bytesLess y x=false) (h2:Op.bytesLess z y=false):Op.bytesLess z x=false:=by
  cases h3:Op.bytesLess z x with
  | false=>rfl
  | true=>have:=le_lt h2 h3; rw [this] at h; cases h
theorem sortS_sorted (l:List (List UInt8)):(sortS l).Pairwise (fun x y=>Op.bytesLess y x=false):=by
  have h:=List.pairwise_mergeSort (le:=fun x y:List UInt8=>decide (x≤y)) (fun a b c h1 h2=>by
    rw [le_iff] at *
    simp only [Bool.not_eq_true'] at *
    exact le_le h1 h2) (fun a b=>by
    rw [le_iff,le_iff]
    cases h1:Op.bytesLess b a with
    | false=>rfl
    | true =>
      cases h2:Op.bytesLess a b with
      | false=>rfl
      | true=>have:=bL_trans h1 h2; rw [bL_irr] at this; cases this) l
  refine h.imp fun {a b} hab=>?_
  rw [le_iff] at hab
  simpa using hab
theorem mem_sortS {l:List (List UInt8)} {x:List UInt8}:x∈sortS l↔x∈l:=by
  unfold sortS
  exact List.mem_mergeSort
theorem toArr2 (F:List (List UInt8)) (j:Nat) (h:j < F.length):F.toArray[j]! = F[j]:=by
  rw [getElem!_pos F.toArray j (by simpa using h)]
  simp
theorem compactUpTo_ok {d:Array (List UInt8)} (hd:∀ i j,i < j→j < d.size→Op.bytesLess d[j]! d[i]! = false):∀ m,m≤d.size→(∀ x,x∈compactUpTo d m↔∃ j,j < m∧d[j]! = x)∧(compactUpTo d m).Pairwise (fun x y=>Op.bytesLess x y=true):=by
  intro m
  induction m with
  | zero=>intro _; exact ⟨fun x=>by simp [compactUpTo],by simp [compactUpTo]⟩
  | succ m ih =>
    intro hm
    obtain ⟨h1,h2⟩:=ih (by omega)
    rw [compactUpTo_succ]
    by_cases hk:keeps d m=true
    · rw [if_pos hk]
      refine ⟨fun x=>?_,?_⟩
      · rw [List.mem_append,h1,List.mem_singleton]
        constructor
        · rintro (⟨j,hj,e⟩ | e)
          · exact ⟨j,by omega,e⟩
          · exact ⟨m,by omega,e.symm⟩
        · rintro ⟨j,hj,e⟩
          by_cases hjm:j=m
          · subst hjm; exact .inr e.symm
          · exact .inl ⟨j,by omega,e⟩
      · rw [List.pairwise_append]
        refine ⟨h2,List.pairwise_singleton _ _,fun x hx y hy=>?_⟩
        rw [List.mem_singleton] at hy
        subst hy
        obtain ⟨j,hj,rfl⟩:=(h1 x).1 hx
        have hne:d[m]! ≠ d[m - 1]! := by
          unfold keeps at hk
          rcases of_decide_eq_true hk with h | h
          · omega
          · exact h
        have hlt:=le_ne (hd (m - 1) m (by omega) (by omega)) (Ne.symm hne)
        by_cases hj1:j=m - 1
        · rw [hj1]; exact hlt
        · exact le_lt (hd j (m - 1) (by omega) (by omega)) hlt
    · rw [if_neg hk,List.append_nil]
      refine ⟨fun x=>?_,h2⟩
      rw [h1]
      constructor
      · rintro ⟨j,hj,e⟩
        exact ⟨j,by omega,e⟩
      · rintro ⟨j,hj,e⟩
        by_cases hjm:j=m
        · subst hjm
          unfold keeps at hk
          have hk2:¬ (j=0∨d[j]! ≠ d[j - 1]!):=fun h=>hk (decide_eq_true h)
          have hj0:j≠0:=fun h=>hk2 (.inl h)
          have he:d[j]! = d[j - 1]! := Classical.not_not.1 fun h=>hk2 (.inr h)
          exact ⟨j - 1,by omega,by rw [← he]; exact e⟩
        · exact ⟨j,by omega,e⟩
theorem compact_ok (l:List (List UInt8)):(∀ x,x∈Lib.compact (sortS l)↔x∈l)∧(Lib.compact (sortS l)).Pairwise (fun x y=>Op.bytesLess x y=true):=by
  have hs:=sortS_sorted l
  rw [List.pairwise_iff_getElem] at hs
  obtain ⟨h1,h2⟩:=compactUpTo_ok (d:=(sortS l).toArray) (fun i j hij hj=>by
    have hj':j < (sortS l).length:=by simpa using hj
    have:=hs i j (by omega) hj' hij
    rw [getElem!_pos (sortS l).toArray j hj,getElem!_pos (sortS l).toArray i (by omega)]
    simpa using this) (sortS l).length (by simp)
  refine ⟨fun x=>?_,h2⟩
  have h3:x∈Lib.compact (sortS l)↔∃ j,j < (sortS l).length∧(sortS l).toArray[j]! = x:=h1 x
  rw [h3,← mem_sortS (l:=l)]
  constructor
  · rintro ⟨j,hj,rfl⟩
    rw [toArr2 (sortS l) j hj]
    exact List.getElem_mem hj
  · intro hx
    obtain ⟨j,hj,rfl⟩:=List.getElem_of_mem hx
    exact ⟨j,hj,toArr2 _ _ hj⟩
end Go.Vm.PreG
