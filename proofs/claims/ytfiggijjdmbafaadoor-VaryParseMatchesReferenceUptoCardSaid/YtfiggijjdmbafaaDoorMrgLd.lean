/-
  vary.Parse,plain law 4: loops that look for the first fault; names; texts that are quoted.
-/
import Derived.Test.YtfiggijjdmbafaaDoorMrgLc
namespace Go.Vm.MrgG
/-! ## The first fault of a list -/
def fe {α:Type} (q:Nat→α→Int):Nat→List α→Int
  | _,[]=>0
  | i,x :: xs=>bif q i x == 0 then fe q (i+1) xs else q i x
theorem fe_zero {α:Type} {q:Nat→α→Int}:∀ {l:List α} {i:Nat},(∀ j x,l[j]? = some x→q (i+j) x=0)→fe q i l=0
  | [],_,_=>rfl
  | x :: xs,i,h=>by
    rw [fe,show q i x=0 from h 0 x rfl]
    exact fe_zero fun j y hy=>by have:=h (j+1) y (by simpa using hy); rwa [show i+(j+1)=i+1+j by omega] at this
theorem scanE {α ε:Type} (l:List α) (L:Nat→Int→Option (Out Unit ε)) (q:Nat→α→Int) (E:Int→ε)
    (h1:∀ n (i:Nat) x,l[i]? = some x→L (n+1) i=bif q i x == 0 then L n ((i+1:Nat):Int) else some (.esc (E (q i x))))
    (h2:∀ n,L (n+1) (l.length:Int)=some (.go ())) (n:Nat) (hn:l.length < n):L n 0=some (bif fe q 0 l == 0 then .go () else .esc (E (fe q 0 l))):=by
  have key:∀ (xs:List α) (i n:Nat),(∀ j x,xs[j]? = some x→l[i+j]? = some x)→i+xs.length=l.length→xs.length < n→L n i=some (bif fe q i xs == 0 then .go () else .esc (E (fe q i xs))):=by
    intro xs
    induction xs with
    | nil =>
      intro i n _ hl hn
      obtain ⟨n,rfl⟩:∃ k,n=k+1:=⟨n - 1,by omega⟩
      have:i=l.length:=by simpa using hl
      subst this
      exact h2 n
    | cons x xs ih =>
      intro i n hx hl hn
      obtain ⟨n,rfl⟩:∃ k,n=k+1:=⟨n - 1,by omega⟩
      simp only [List.length_cons] at hl hn
      rw [h1 n i x (by simpa using hx 0 x rfl),fe]
      cases hq:q i x == 0
      · rw [cond_false,cond_false,hq,cond_false]
      · rw [cond_true,cond_true]
        exact ih (i+1) n (fun j y hy=>by have:=hx (j+1) y (by simpa using hy); rwa [show i+1+j=i+(j+1) by omega]) (by omega) (by omega)
  exact key l 0 n (fun j x h=>by simpa using h) (by simp) hn
theorem scanW {α:Type} (l:List α) (L:Nat→Int→Int→Option Int) (q:Nat→α→Int)
    (h1:∀ n (i:Nat) x v,l[i]? = some x→L (n+1) v i=L n (bif v == 0 then q i x else v) ((i+1:Nat):Int))
    (h2:∀ n v,L (n+1) v (l.length:Int)=some v) (n:Nat) (hn:l.length < n):L n 0 0=some (fe q 0 l):=by
  have key:∀ (xs:List α) (i n:Nat) (v:Int),(∀ j x,xs[j]? = some x→l[i+j]? = some x)→i+xs.length=l.length→xs.length < n→L n v i=some (bif v == 0 then fe q i xs else v):=by
    intro xs
    induction xs with
    | nil =>
      intro i n v _ hl hn
      obtain ⟨n,rfl⟩:∃ k,n=k+1:=⟨n - 1,by omega⟩
      have:i=l.length:=by simpa using hl
      subst this
      rw [h2 n v]
      cases hv:v == 0
      · rfl
      · have:v=0:=by simpa using hv
        subst this; rfl
    | cons x xs ih =>
      intro i n v hx hl hn
      obtain ⟨n,rfl⟩:∃ k,n=k+1:=⟨n - 1,by omega⟩
      simp only [List.length_cons] at hl hn
      rw [h1 n i x v (by simpa using hx 0 x rfl),fe,ih (i+1) n _ (fun j y hy=>by have:=hx (j+1) y (by simpa using hy); rwa [show i+1+j=i+(j+1) by omega]) (by omega) (by omega)]
      cases hv:v == 0
      · rw [cond_false,cond_false,hv]; rfl
      · rw [cond_true,cond_true]
  exact key l 0 n 0 (fun j x h=>by simpa using h) (by simp) hn
/-! ## Names -/
def az (c:UInt8):Bool:=bif (decide ((97:Int)≤(c.toNat:Int))) then (decide ((c.toNat:Int)≤(122:Int))) else false
def dg (c:UInt8):Bool:=bif (decide ((48:Int)≤(c.toNat:Int))) then (decide ((c.toNat:Int)≤(57:Int))) else false
def bad (c:UInt8):Bool:=bif !az c then (bif !dg c then ((c.toNat:Int) != (45:Int)) else false) else false
def badAt (i:Nat) (c:UInt8):Int:=bif (bif !az c then (bif ((i:Int) == (0:Int)) then true else (bif !dg c then ((c.toNat:Int) != (45:Int)) else false)) else false) then 1 else 0
def badIn (_:Nat) (c:UInt8):Int:=bif bad c then 1 else 0
def nm (a:List UInt8):Bool:=bif fe badAt 0 a == 0 then (bif (!(a == [])) then (decide ((a.length:Int)≤(16:Int))) else false) else false
theorem plain_eq (F:Nat) (a:List UInt8) (hs:a.length≤4294967280) (hF:a.length < F):vary_plain F a=some (nm a):=by
  unfold vary_plain nm
  rw [scanE a (vary_plain_L0 F a) badAt (fun _=>false) ?_ ?_ F hF]
  · cases fe badAt 0 a == 0 <;> rfl
  · intro n i x hx
    have hi:=lt_of_get hx
    rw [vary_plain_L0,dec_lt hi,cond_true,chk_in hi]
    simp only [nat_toNat,getD_of hx,lett_eq,wrap_succ (show i < 9223372036854775807 by omega)]
    unfold badAt
    change (bif (bif !az x then (bif ((i:Int) == (0:Int)) then true else (bif !dg x then ((x.toNat:Int) != (45:Int)) else false)) else false) then _ else _)=_
    cases (bif !az x then (bif ((i:Int) == (0:Int)) then true else (bif !dg x then ((x.toNat:Int) != (45:Int)) else false)) else false) <;> rfl
  · intro n
    rw [vary_plain_L0,dec_end,cond_false]
theorem dgR (F:Nat) (c:UInt8):ref3_digit F (c.toNat:Int)=some (dg c):=rfl
theorem isname_L0 (F:Nat) (a:List UInt8) (hs:a.length≤4294967280) (hF:a.length < F):ref3_IsName_L0 F a F 0=some (bif fe badIn 0 a == 0 then .go () else .esc false):=by
  refine scanE a (ref3_IsName_L0 F a) badIn (fun _=>false) ?_ ?_ F hF
  · intro n i x hx
    have hi:=lt_of_get hx
    rw [ref3_IsName_L0,dec_lt hi,cond_true,chk_in hi]
    simp only [nat_toNat,getD_of hx,lett_eq,wrap_succ (show i < 9223372036854775807 by omega),dgR]
    have hci:∀ (b:Bool) (k:Option (Out Unit Bool)),chk (b=true→0≤(i:Int)∧(i:Int) < (a.length:Int)) k=k:=fun p k=>chk_pos fun _=>⟨by omega,by omega⟩
    simp only [hci]
    have h97:(bif decide ((x.toNat:Int) ≥ 97) then decide ((x.toNat:Int)≤122) else false)=az x:=rfl
    rw [h97]
    unfold badIn bad
    cases az x <;> cases dg x <;> cases ((x.toNat:Int) != (45:Int)) <;> rfl
  · intro n
    rw [ref3_IsName_L0,dec_end,cond_false]
theorem isname_eq (F:Nat) (a:List UInt8) (hs:a.length≤4294967280) (hF:a.length < F):ref3_IsName F a=some (nm a):=by
  unfold ref3_IsName
  rw [isname_L0 F a hs hF]
  cases a with
  | nil=>rfl
  | cons c t =>
    have hp:∀ (b:Bool) (k:Option Bool),chk (b=true→0≤(0:Int)∧(0:Int) < ((c :: t).length:Int)) k=k:=fun p k=>chk_pos fun _=>⟨by omega,by simp only [List.length_cons]; omega⟩
    simp only [hp,lett_eq]
    have hh:(c :: t).getD (0:Int).toNat 0=c:=rfl
    rw [hh]
    have haz:az c = !(bif decide ((c.toNat:Int) < 97) then true else decide ((c.toNat:Int) > 122)):=by
      unfold az
      by_cases h1:(97:Int)≤(c.toNat:Int)
      · rw [decide_eq_true h1,decide_eq_false (show ¬ (c.toNat:Int) < 97 by omega)]
        by_cases h2:(c.toNat:Int)≤122
        · rw [decide_eq_true h2,decide_eq_false (show ¬ (c.toNat:Int) > 122 by omega)]; rfl
        · rw [decide_eq_false h2,decide_eq_true (show (c.toNat:Int) > 122 by omega)]; rfl
      · rw [decide_eq_false h1,decide_eq_true (show (c.toNat:Int) < 97 by omega)]; rfl
    have hne:((c :: t) == [])=false:=rfl
    have hlen:decide (((c :: t).length:Int) > 16) = !(decide (((c :: t).length:Int)≤16)):=by
      by_cases h:((c :: t).length:Int)≤16
      · rw [decide_eq_true h,decide_eq_false (by omega)]; rfl
      · rw [decide_eq_false h,decide_eq_true (by omega)]; rfl
    have hfe:(fe badAt 0 (c :: t) == 0)=(bif az c then fe badIn 0 (c :: t) == 0 else false):=by
      cases hz:az c
      · rw [fe,show badAt 0 c=1 by unfold badAt; rw [hz]; rfl]; rfl
      · have e1:∀ (l:List UInt8) (i:Nat),fe badAt (i+1) l=fe badIn (i+1) l:=by
          intro l
          induction l with
          | nil=>intro i; rfl
          | cons x l ih =>
            intro i
            rw [fe,fe,ih]
            have:badAt (i+1) x=badIn (i+1) x:=by
              unfold badAt badIn bad
              rw [show (((i+1:Nat):Int) == 0)=false from beq_eq_false_iff_ne.2 (by omega),cond_false]
            rw [this]
        rw [fe,fe,show badAt 0 c=0 by unfold badAt; rw [hz]; rfl,show badIn 0 c=0 by unfold badIn bad; rw [hz]; rfl,cond_true,e1]
    unfold nm
    rw [hfe,hne,hlen,haz]
    cases decide ((c.toNat:Int) < 97) <;> cases decide ((c.toNat:Int) > 122) <;> cases decide (((c :: t).length:Int)≤16) <;> cases fe badIn 0 (c :: t) == 0 <;> rfl
/-! ## Texts in lists -/
def hasAt (a:List UInt8) (i:Nat) (x:List UInt8):Int:=bif a == x then (i:Int)+1 else 0
theorem hasAt_fe (a:List UInt8) (l:List (List UInt8)):∀ i:Nat,(fe (hasAt a) i l == 0) = !(l.contains a)∧0≤fe (hasAt a) i l:=by
  induction l with
  | nil=>intro i; exact ⟨rfl,Int.le_refl _⟩
  | cons x l ih =>
    intro i
    rw [fe,List.contains_cons]
    unfold hasAt
    cases a == x
    · exact ih (i+1)
    · rw [show ((bif true then (i:Int)+1 else 0) == 0)=false from beq_eq_false_iff_ne.2 (by show (i:Int)+1≠0; omega)]
      exact ⟨beq_eq_false_iff_ne.2 (by show (i:Int)+1≠0; omega),by show 0≤(i:Int)+1; omega⟩
theorem contains_eq (F:Nat) (l:List (List UInt8)) (a:List UInt8) (hl:l.length≤4294967280) (hF:l.length < F):slices_Contains_string F l a=some (l.contains a):=by
  unfold slices_Contains_string slices_Index_string
  rw [scanE l (slices_Index_string_L0 F l a) (hasAt a) (fun z=>z - 1) ?_ ?_ F hF]
  · obtain ⟨h1,h2⟩:=hasAt_fe a l 0
    cases h3:fe (hasAt a) 0 l == 0
    · rw [h3] at h1
      have:l.contains a=true:=by cases h:l.contains a; rw [h] at h1; cases h1; rfl
      rw [this]
      show some (decide (fe (hasAt a) 0 l - 1 ≥ 0))=_
      rw [decide_eq_true (by have:=beq_eq_false_iff_ne.1 h3; omega)]
    · rw [h3] at h1
      have:l.contains a=false:=by cases h:l.contains a; rfl; rw [h] at h1; cases h1
      rw [this]
      rfl
  · intro n i x hx
    have hi:=lt_of_get hx
    rw [slices_Index_string_L0,dec_lt hi,cond_true,chk_in hi,wrap_succ (by omega)]
    simp only [nat_toNat,getD_of hx]
    unfold hasAt
    cases a == x
    · rfl
    · rw [show ((bif true then (i:Int)+1 else 0) == 0)=false from beq_eq_false_iff_ne.2 (by show (i:Int)+1≠0; omega)]
      show some (Out.esc (i:Int))=some (Out.esc ((i:Int)+1 - 1))
      rw [Int.add_sub_cancel]
  · intro n
    rw [slices_Index_string_L0,dec_end,cond_false]
theorem hastext_eq (F:Nat) (l:List (List UInt8)) (a:List UInt8) (hl:l.length≤4294967280) (hF:l.length < F):ref3_HasText F l a=some (l.contains a):=by
  unfold ref3_HasText
  rw [scanE l (ref3_HasText_L0 F l a) (hasAt a) (fun _=>true) ?_ ?_ F hF]
  · obtain ⟨h1,h2⟩:=hasAt_fe a l 0
    cases h3:fe (hasAt a) 0 l == 0
    · rw [h3] at h1
      have:l.contains a=true:=by cases h:l.contains a; rw [h] at h1; cases h1; rfl
      rw [this]
      rfl
    · rw [h3] at h1
      have:l.contains a=false:=by cases h:l.contains a; rfl; rw [h] at h1; cases h1
      rw [this]
      rfl
  · intro n i x hx
    have hi:=lt_of_get hx
    rw [ref3_HasText_L0,dec_lt hi,cond_true,chk_in hi,wrap_succ (by omega)]
    simp only [nat_toNat,getD_of hx]
    unfold hasAt
    rw [show (x == a)=(a == x) from BEq.comm]
    cases a == x
    · rfl
    · rw [show ((bif true then (i:Int)+1 else 0) == 0)=false from beq_eq_false_iff_ne.2 (by show (i:Int)+1≠0; omega)]
      rfl
  · intro n
    rw [ref3_HasText_L0,dec_end,cond_false]
end Go.Vm.MrgG
