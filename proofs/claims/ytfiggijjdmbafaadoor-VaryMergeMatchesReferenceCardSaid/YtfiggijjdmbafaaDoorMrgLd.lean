/-
  vary.Parse,plain law 4: loops that look for the first fault; names; texts that are quoted.
-/
import Derived.Test.YtfiggijjdmbafaaDoorMrgLc
namespace Go.Vm.MrgG
/-! ## The first fault of a list -/
def fe {α:Type} (q:Nat→α→Int):Nat→List α→Int
  | _,[]=>0
  | i,x :: xs=>bif q i x == 0 then fe q (i+1) xs else q i x
theorem scanE {α ε:Type} (l:List α) (L:Nat→Int→Option (Out Unit ε)) (q:Nat→α→Int) (E:Int→ε)
    (h1:∀ n (i:Nat) x,l[i]? = some x→L (n+1) i=bif q i x == 0 then L n ((i+1:Nat):Int) else some (.esc (E (q i x))))
    (h2:∀ n,L (n+1) (l.length:Int)=some (.go ())) (n:Nat) (hn:l.length < n):L n 0=some (bif fe q 0 l == 0 then .go () else .esc (E (fe q 0 l))):=by
  have key:∀ (xs:List α) (i n:Nat),(∀ j x,xs[j]? = some x→l[i+j]? = some x)→i+xs.length=l.length→xs.length < n→L n i=some (bif fe q i xs == 0 then .go () else .esc (E (fe q i xs))):=by
    intro xs
    induction xs with
    | nil =>
      intro i n _ hl hn
      obtain ⟨n,rfl⟩:∃ k,n=k+1:=⟨n - 1,by omega⟩
      have:i=l.length:=by simpa using hl
      subst this
      exact h2 n
    | cons x xs ih =>
      intro i n hx hl hn
      obtain ⟨n,rfl⟩:∃ k,n=k+1:=⟨n - 1,by omega⟩
      simp only [List.length_cons] at hl hn
      rw [h1 n i x (by simpa using hx 0 x rfl),fe]
      cases hq:q i x == 0
      · rw [cond_false,cond_false,hq,cond_false]
      · rw [cond_true,cond_true]
        exact ih (i+1) n (fun j y hy=>by have:=hx (j+1) y (by simpa using hy); rwa [show i+1+j=i+(j+1) by omega]) (by omega) (by omega)
  exact key l 0 n (fun j x h=>by simpa using h) (by simp) hn
/-! ## Names -/
def az (c:UInt8):Bool:=bif (decide ((97:Int)≤(c.toNat:Int))) then (decide ((c.toNat:Int)≤(122:Int))) else false
def dg (c:UInt8):Bool:=bif (decide ((48:Int)≤(c.toNat:Int))) then (decide ((c.toNat:Int)≤(57:Int))) else false
def badAt (i:Nat) (c:UInt8):Int:=bif (bif !az c then (bif ((i:Int) == (0:Int)) then true else (bif !dg c then ((c.toNat:Int) != (45:Int)) else false)) else false) then 1 else 0
def nm (a:List UInt8):Bool:=bif fe badAt 0 a == 0 then (bif (!(a == [])) then (decide ((a.length:Int)≤(16:Int))) else false) else false
theorem plain_eq (F:Nat) (a:List UInt8) (hs:a.length≤4294967280) (hF:a.length < F):vary_plain F a=some (nm a):=by
  unfold vary_plain nm
  rw [scanE a (vary_plain_L0 F a) badAt (fun _=>false) ?_ ?_ F hF]
  · cases fe badAt 0 a == 0 <;> rfl
  · intro n i x hx
    have hi:=lt_of_get hx
    rw [vary_plain_L0,dec_lt hi,cond_true,chk_in hi]
    simp only [nat_toNat,getD_of hx,lett_eq,wrap_succ (show i < 9223372036854775807 by omega)]
    unfold badAt
    change (bif (bif !az x then (bif ((i:Int) == (0:Int)) then true else (bif !dg x then ((x.toNat:Int) != (45:Int)) else false)) else false) then _ else _)=_
    cases (bif !az x then (bif ((i:Int) == (0:Int)) then true else (bif !dg x then ((x.toNat:Int) != (45:Int)) else false)) else false) <;> rfl
  · intro n
    rw [vary_plain_L0,dec_end,cond_false]
theorem dgR (F:Nat) (c:UInt8):ref3_digit F (c.toNat:Int)=some (dg c):=rfl
/-! ## Texts in lists -/
def hasAt (a:List UInt8) (i:Nat) (x:List UInt8):Int:=bif a == x then (i:Int)+1 else 0
theorem hasAt_fe (a:List UInt8) (l:List (List UInt8)):∀ i:Nat,(fe (hasAt a) i l == 0) = !(l.contains a)∧0≤fe (hasAt a) i l:=by
  induction l with
  | nil=>intro i; exact ⟨rfl,Int.le_refl _⟩
  | cons x l ih =>
    intro i
    rw [fe,List.contains_cons]
    unfold hasAt
    cases a == x
    · exact ih (i+1)
    · rw [show ((bif true then (i:Int)+1 else 0) == 0)=false from beq_eq_false_iff_ne.2 (by show (i:Int)+1≠0; omega)]
      exact ⟨beq_eq_false_iff_ne.2 (by show (i:Int)+1≠0; omega),by show 0≤(i:Int)+1; omega⟩
theorem contains_eq (F:Nat) (l:List (List UInt8)) (a:List UInt8) (hl:l.length≤4294967280) (hF:l.length < F):slices_Contains_string F l a=some (l.contains a):=by
  unfold slices_Contains_string slices_Index_string
  rw [scanE l (slices_Index_string_L0 F l a) (hasAt a) (fun z=>z - 1) ?_ ?_ F hF]
  · obtain ⟨h1,h2⟩:=hasAt_fe a l 0
    cases h3:fe (hasAt a) 0 l == 0
    · rw [h3] at h1
      have:l.contains a=true:=by cases h:l.contains a; rw [h] at h1; cases h1; rfl
      rw [this]
      show some (decide (fe (hasAt a) 0 l - 1 ≥ 0))=_
      rw [decide_eq_true (by have:=beq_eq_false_iff_ne.1 h3; omega)]
    · rw [h3] at h1
      have:l.contains a=false:=by cases h:l.contains a; rfl; rw [h] at h1; cases h1
      rw [this]
      rfl
  · intro n i x hx
    have hi:=lt_of_get hx
    rw [slices_Index_string_L0,dec_lt hi,cond_true,chk_in hi,wrap_succ (by omega)]
    simp only [nat_toNat,getD_of hx]
    unfold hasAt
    cases a == x
    · rfl
    · rw [show ((bif true then (i:Int)+1 else 0) == 0)=false from beq_eq_false_iff_ne.2 (by show (i:Int)+1≠0; omega)]
      show some (Out.esc (i:Int))=some (Out.esc ((i:Int)+1 - 1))
      rw [Int.add_sub_cancel]
  · intro n
    rw [slices_Index_string_L0,dec_end,cond_false]
end Go.Vm.MrgG
