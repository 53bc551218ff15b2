/-
  DEPTHS,PLAIN: a graph of numbered nodes,each with its own weight and a list of parts: depth and weight by fuel.
-/
import Derived.Test.YtkoocklcgndanaaDoorVmC
namespace Go.Vm.SubG
def depS (d:Nat→Option (Nat×Nat)):List Nat→Nat→Nat→Option (Nat×Nat)
 | [],m,s=>some (m,s)
 | p :: ps,m,s=>match d p with
  | some x=>depS d ps (max m (x.1+1)) (s+x.2)
  | none=>none
section
variable (own:Nat→Nat) (par:Nat→List Nat)
def dep:Nat→Nat→Option (Nat×Nat)
 | 0,_=>none
 | k+1,g=>depS (dep k) (par g) 1 (own g)
variable {own} {par}
theorem depS_mono {d d':Nat→Option (Nat×Nat)}:∀ (l:List Nat) (m s:Nat) (r:Nat×Nat),(∀ p∈l,∀ x,d p=some x→d' p=some x)→depS d l m s=some r→depS d' l m s=some r
 | [],_,_,_,_,h=>h
 | p :: ps,m,s,r,hm,h=>by
  rw [depS] at h ⊢
  cases hp:d p with
  | none=>rw [hp] at h; cases h
  | some x =>
   rw [hp] at h
   rw [hm p List.mem_cons_self x hp]
   exact depS_mono ps _ _ r (fun q hq=>hm q (List.mem_cons_of_mem _ hq)) h
theorem depS_some {d:Nat→Option (Nat×Nat)}:∀ (l:List Nat) (m s:Nat),(∀ p∈l,d p≠none)→depS d l m s≠none
 | [],m,s,_=>by rw [depS]; exact fun h=>by cases h
 | p :: ps,m,s,h=>by
  rw [depS]
  cases hp:d p with
  | none=>exact absurd hp (h p List.mem_cons_self)
  | some x=>exact depS_some ps _ _ (fun q hq=>h q (List.mem_cons_of_mem _ hq))
theorem depS_parts {d:Nat→Option (Nat×Nat)}:∀ (l:List Nat) (m s:Nat),depS d l m s≠none→∀ p∈l,d p≠none
 | [],_,_,_,p,hp=>by cases hp
 | q :: ps,m,s,h,p,hp=>by
  rw [depS] at h
  cases hq:d q with
  | none=>rw [hq] at h; exact absurd rfl h
  | some x =>
   rw [hq] at h
   rcases List.mem_cons.1 hp with rfl | hp
   ·rw [hq]; exact fun h=>by cases h
   ·exact depS_parts ps _ _ h p hp
theorem depS_ge {d:Nat→Option (Nat×Nat)}:∀ (l:List Nat) (m s:Nat) (r:Nat×Nat),depS d l m s=some r→m≤r.1∧s≤r.2
 | [],m,s,r,h=>by rw [depS] at h; cases h; exact ⟨Nat.le_refl _,Nat.le_refl _⟩
 | p :: ps,m,s,r,h=>by
  rw [depS] at h
  cases hp:d p with
  | none=>rw [hp] at h; cases h
  | some x =>
   rw [hp] at h
   have:=depS_ge ps _ _ r h
   omega
theorem depS_le {d:Nat→Option (Nat×Nat)} {b:Nat}:∀ (l:List Nat) (m s:Nat) (r:Nat×Nat),(∀ p∈l,∀ x,d p=some x→x.1+1≤b)→m≤b→depS d l m s=some r→r.1≤b
 | [],m,s,r,_,hm,h=>by rw [depS] at h; cases h; exact hm
 | p :: ps,m,s,r,hx,hm,h=>by
  rw [depS] at h
  cases hp:d p with
  | none=>rw [hp] at h; cases h
  | some x =>
   rw [hp] at h
   have h1:=hx p List.mem_cons_self x hp
   exact depS_le ps _ _ r (fun q hq=>hx q (List.mem_cons_of_mem _ hq)) (by omega) h
theorem dep_succ:∀ (k g:Nat) (x:Nat×Nat),dep own par k g=some x→dep own par (k+1) g=some x
 | 0,_,_,h=>by cases h
 | k+1,g,x,h=>by
  rw [dep] at h ⊢
  exact depS_mono _ _ _ _ (fun p _ y hy=>dep_succ k p y hy) h
theorem dep_mono {k k':Nat} (hk:k≤k') {g:Nat} {x:Nat×Nat} (h:dep own par k g=some x):dep own par k' g=some x:=by
 induction hk with
 | refl=>exact h
 | step _ ih=>exact dep_succ _ _ _ ih
theorem dep_le:∀ (k g:Nat) (x:Nat×Nat),dep own par k g=some x→x.1≤k
 | 0,_,_,h=>by cases h
 | k+1,g,x,h=>by
  rw [dep] at h
  exact depS_le _ _ _ _ (fun p _ y hy=>by have:=dep_le k p y hy; omega) (by omega) h
theorem dep_pos:∀ (k g:Nat) (x:Nat×Nat),dep own par k g=some x→1≤x.1
 | 0,_,_,h=>by cases h
 | k+1,g,x,h=>by
  rw [dep] at h
  exact (depS_ge _ _ _ _ h).1
/-- Where two fuels agree,all larger ones do. -/
def stable (own:Nat→Nat) (par:Nat→List Nat) (n k:Nat):Prop:=∀ g < n,dep own par (k+1) g≠none→dep own par k g≠none
theorem dep_def {n k:Nat} (hp:∀ g < n,∀ p∈par g,p < n) (h:stable own par n k):stable own par n (k+1):=by
 intro g hg hd
 rw [dep] at hd ⊢
 refine depS_some _ _ _ fun p hpg=>h p (hp g hg p hpg) ?_
 exact depS_parts _ _ _ hd p hpg
theorem count_lt (f g:Nat→Bool):∀ (l:List Nat),(∀ x∈l,f x=true→g x=true)→(∃ x∈l,g x=true∧f x=false)→(l.filter f).length < (l.filter g).length
 | [],_,h=>by obtain ⟨x,hx,_⟩:=h; cases hx
 | y :: l,hm,h=>by
  have hle:∀ (l:List Nat),(∀ x∈l,f x=true→g x=true)→(l.filter f).length≤(l.filter g).length:=by
   intro l
   induction l with
   | nil=>intro _; exact Nat.le_refl _
   | cons z l ih =>
    intro hm
    have:=ih (fun x hx=>hm x (List.mem_cons_of_mem _ hx))
    rw [List.filter_cons,List.filter_cons]
    cases hf:f z
    ·cases hg:g z
     ·simpa using this
     ·simp only [if_true,List.length_cons,Bool.false_eq_true,if_false]; omega
    ·rw [hm z List.mem_cons_self hf]
     simp only [if_true,List.length_cons]; omega
  obtain ⟨x,hx,h1,h2⟩:=h
  rw [List.filter_cons,List.filter_cons]
  rcases List.mem_cons.1 hx with rfl | hx
  ·have:=hle l (fun x hx=>hm x (List.mem_cons_of_mem _ hx))
   rw [h1,h2]
   simp only [if_true,List.length_cons,Bool.false_eq_true,if_false]; omega
  ·have:=count_lt f g l (fun x hx=>hm x (List.mem_cons_of_mem _ hx)) ⟨x,hx,h1,h2⟩
   cases hf:f y
   ·cases hg:g y
    ·simpa using this
    ·simp only [if_true,List.length_cons,Bool.false_eq_true,if_false]; omega
   ·rw [hm y List.mem_cons_self hf]
    simp only [if_true,List.length_cons]; omega
theorem stable_all (n:Nat) (hp:∀ g < n,∀ p∈par g,p < n):stable own par n n:=by
 have key:∀ k,stable own par n k∨((List.range n).filter fun g=>(dep own par k g).isNone).length+k≤n:=by
  intro k
  induction k with
  | zero =>
   right
   have:=List.length_filter_le (fun g=>(dep own par 0 g).isNone) (List.range n)
   rw [List.length_range] at this
   omega
  | succ k ih =>
   by_cases hs:stable own par n k
   ·exact .inl (dep_def hp hs)
   ·rcases ih with h | h
    ·exact absurd h hs
    ·right
     have hex:∃ g,g < n∧dep own par (k+1) g≠none∧dep own par k g=none:=by
      by_cases hx:∃ g,g < n∧dep own par (k+1) g≠none∧dep own par k g=none
      ·exact hx
      ·exact absurd (fun g hg hd hn=>hx ⟨g,hg,hd,hn⟩) hs
     obtain ⟨g,hg,h1,h2⟩:=hex
     have:=count_lt (fun g=>(dep own par (k+1) g).isNone) (fun g=>(dep own par k g).isNone) (List.range n) (fun x _ hx=>by
      cases hd:dep own par k x with
      | none=>rfl
      | some y=>rw [dep_succ _ _ _ hd] at hx; cases hx) ⟨g,List.mem_range.2 hg,by rw [h2]; rfl,by
       cases hd:dep own par (k+1) g with
       | none=>exact absurd hd h1
       | some y=>rfl⟩
     omega
 rcases key n with h | h
 ·exact h
 ·intro g hg _ hn
  have hm:g∈(List.range n).filter fun g=>(dep own par n g).isNone:=List.mem_filter.2 ⟨List.mem_range.2 hg,by rw [hn]; rfl⟩
  have:=List.length_pos_of_mem hm
  omega
theorem dep_top {n:Nat} (hp:∀ g < n,∀ p∈par g,p < n):∀ (k g:Nat),g < n→∀ x,dep own par k g=some x→dep own par n g=some x:=by
 intro k g hg x hx
 have hs:∀ j,stable own par n (n+j):=by
  intro j
  induction j with
  | zero=>exact stable_all n hp
  | succ j ih=>exact dep_def hp ih
 by_cases hk:k≤n
 ·exact dep_mono hk hx
 ·obtain ⟨j,rfl⟩:∃ j,k=n+j:=⟨k - n,by omega⟩
  have hn:∀ j,dep own par (n+j) g≠none→dep own par n g≠none:=by
   intro j
   induction j with
   | zero=>exact id
   | succ j ih=>exact fun h=>ih (hs j g hg h)
  have:=hn j (by rw [hx]; exact fun h=>by cases h)
  cases hd:dep own par n g with
  | none=>exact absurd hd this
  | some y =>
   have:=dep_mono (Nat.le_add_right n j) hd
   rw [hx] at this
   rw [Option.some.inj this]
/-- The depths,once and for all. -/
def top (own:Nat→Nat) (par:Nat→List Nat) (n:Nat):Nat→Option (Nat×Nat):=dep own par n
theorem top_eq {n:Nat} (hp:∀ g < n,∀ p∈par g,p < n) {g:Nat} (hg:g < n):top own par n g=depS (top own par n) (par g) 1 (own g):=by
 have h1:dep own par (n+1) g=depS (top own par n) (par g) 1 (own g):=rfl
 rw [← h1]
 cases hd:dep own par (n+1) g with
 | some x=>exact dep_top hp _ g hg x hd
 | none =>
  cases ht:top own par n g with
  | none=>rfl
  | some y=>rw [dep_succ _ _ _ ht] at hd; cases hd
/-- What lies properly under a node has a smaller rank. -/
def Up (own:Nat→Nat) (par:Nat→List Nat) (x g:Nat):Prop:=∀ k,dep own par k x≠none→∃ j,j < k∧dep own par j g≠none
theorem Up.trans {x y z:Nat} (h:Up own par x y) (h':Up own par y z):Up own par x z:=by
 intro k hk
 obtain ⟨j,hj,hd⟩:=h k hk
 obtain ⟨i,hi,hd⟩:=h' j hd
 exact ⟨i,by omega,hd⟩
theorem Up.edge {x p:Nat} (h:p∈par x):Up own par x p:=by
 intro k hk
 cases k with
 | zero=>exact absurd rfl hk
 | succ k =>
  rw [dep] at hk
  exact ⟨k,by omega,depS_parts _ _ _ hk p h⟩
theorem Up.irrefl {x:Nat} (h:Up own par x x):∀ k,dep own par k x=none:=by
 intro k
 induction k using Nat.strongRecOn with
 | ind k ih =>
  cases hd:dep own par k x with
  | none=>rfl
  | some y =>
   obtain ⟨j,hj,hn⟩:=h k (by rw [hd]; exact fun h=>by cases h)
   exact absurd (ih j hj) hn
end
end Go.Vm.SubG
