/-
  archive.Cuts and R.Windows: the same lists; the law.
-/
import Derived.Test.YtflaiaeofndgmaaDoorArcLc
import Derived.Test.YtflaiaeofndgmaaDoorArcLl
namespace Go.Vm.ArcG
theorem pk_le (s:List UInt8):∀ k n,pk s k n≤s.length
  | 0,_=>by rw [pk]; omega
  | k+1,n=>by
    rw [pk]
    split
    · split
      · omega
      · exact pk_le s k (n+1)
    · omega
theorem pk_pos (s:List UInt8) (h:s.length≠0):∀ k n,1≤n→1≤pk s k n
  | 0,_,_=>by rw [pk]; omega
  | k+1,n,hn=>by
    rw [pk]
    split
    · split
      · omega
      · exact pk_pos s h k (n+1) (by omega)
    · omega
theorem cv_in (s:List UInt8) (h:s.length≠0):1≤cv s∧cv s≤s.length:=by
  rw [cv,if_neg h]
  have:=pk_le s (s.length - 1) 1
  have:=pk_pos s h (s.length - 1) 1 (by omega)
  omega
theorem all_eq (F:Nat) (hF:20000≤F):∀ (m:Nat) (s:List UInt8) (n:Nat) (acc:List Int),s.length≤m→m < n→s.length≤16384→acc.length+s.length≤16384 →
    ∃ l,archive_Cuts_L0 F n s acc=some l∧ref3_Windows_L0 F n s acc=some l∧l.length≤16384:=by
  intro m
  induction m with
  | zero =>
    intro s n acc hs hn h1 h2
    obtain ⟨n,rfl⟩:∃ m,n=m+1:=⟨n - 1,by omega⟩
    have:s=[]:=List.length_eq_zero_iff.1 (by omega)
    subst this
    exact ⟨acc,rfl,rfl,by omega⟩
  | succ m ih =>
    intro s n acc hs hn h1 h2
    obtain ⟨n,rfl⟩:∃ m,n=m+1:=⟨n - 1,by omega⟩
    by_cases h0:s.length=0
    · have:s=[]:=List.length_eq_zero_iff.1 h0
      subst this
      exact ⟨acc,rfl,rfl,by omega⟩
    · have hne:(!(s == []))=true:=by
        cases s with
        | nil=>exact absurd rfl h0
        | cons x s=>rfl
      obtain ⟨c1,c2⟩:=cv_in s h0
      have hlen:(((s.drop (cv s).toNat).take ((s.length:Int).toNat - (cv s).toNat))).length=s.length - (cv s).toNat:=by
        rw [List.length_take,List.length_drop]
        omega
      obtain ⟨l,hl1,hl2,hl3⟩:=ih ((s.drop (cv s).toNat).take ((s.length:Int).toNat - (cv s).toNat)) n (acc++[cv s]) (by omega) (by omega) (by omega) (by rw [List.length_append,hlen]; simp; omega)
      refine ⟨l,?_,?_,hl3⟩
      · rw [archive_Cuts_L0,hne,cond_true,cut_law s h1 F hF]
        show chk _ _=_
        rw [chk_pos (by simp; omega),chk_pos ⟨by omega,c2,Int.le_refl _⟩]
        exact hl1
      · rw [ref3_Windows_L0,hne,cond_true,win_law s h0 h1 F hF]
        show chk _ _=_
        rw [chk_pos (by simp; omega),chk_pos ⟨by omega,c2,Int.le_refl _⟩]
        exact hl2
theorem equal_L0 (F:Nat) (l:List Int) (hl:l.length≤16384):∀ (k i n:Nat),i+k=l.length→k < n→slices_Equal_int_L0 F l l n (i:Int)=some (.go ()):=by
  intro k
  induction k with
  | zero =>
    intro i n hi hn
    obtain ⟨n,rfl⟩:∃ m,n=m+1:=⟨n - 1,by omega⟩
    rw [slices_Equal_int_L0,decide_eq_false (by omega),cond_false]
  | succ k ih =>
    intro i n hi hn
    obtain ⟨n,rfl⟩:∃ m,n=m+1:=⟨n - 1,by omega⟩
    rw [slices_Equal_int_L0,dec_lt (show i < l.length by omega),cond_true,chk_pos ⟨by omega,by omega⟩,chk_pos ⟨by omega,by omega⟩]
    have:(l.getD (i:Int).toNat 0 != l.getD (i:Int).toNat 0)=false:=by simp
    rw [this,cond_false,wrap_succ (by omega)]
    exact ih (i+1) n (by omega) (by omega)
theorem equal_law (F:Nat) (l:List Int) (hl:l.length≤16384) (hF:20000≤F):slices_Equal_int F l l=some true:=by
  have:((l.length:Int) != (l.length:Int))=false:=by simp
  rw [slices_Equal_int,this,cond_false]
  show callE (slices_Equal_int_L0 F l l F ((0:Nat):Int)) _ _=_
  rw [equal_L0 F l hl l.length 0 F (by omega) (by omega)]
  rfl
theorem cuts_law (s:List UInt8):law3_ArchiveCutsMatchReference 20000 s=some true:=by
  rw [law3_ArchiveCutsMatchReference]
  show (bif (!true) then some false else _)=_
  rw [Bool.not_true,cond_false,archive_Cuts]
  by_cases h:s.length≤16384
  · obtain ⟨l,h1,h2,h3⟩:=all_eq 20000 (by decide) s.length s 20000 [] (Nat.le_refl _) (by omega) h (by simpa using h)
    have hd:decide ((s.length:Int) > (16384:Int))=false:=decide_eq_false (by omega)
    rw [hd,h1]
    show call (ref3_Windows 20000 s) _=_
    rw [ref3_Windows,h2]
    show call (slices_Equal_int 20000 l l) _=_
    rw [equal_law 20000 l h3 (by decide)]
    rfl
  · have hd:decide ((s.length:Int) > (16384:Int))=true:=decide_eq_true (by omega)
    rw [hd]
    rfl
end Go.Vm.ArcG
