/-
  REFS,PLAIN: sorted rows of integers without repetition.
-/
import Derived.Test.YtgonfionbbhmkaaGreatDoorVmD
import Derived.Test.YtgonfionbbhmkaaGreatDoorVmC
import Derived.Sort.Defs
import Derived.Test.YtgonfionbbhmkaaGreatDoorLa
import Derived.KernelRfl
namespace Go.Vm.PgfG.L
open Go.Lib Go.Sort
theorem bM2 (l:List Int):(nI l).Pairwise (fun x y=>x≤y):=by
 have h:=List.pairwise_mergeSort (le:=fun x y:Int=>decide (x≤y)) (fun a b c h1 h2=>by
  simp only [decide_eq_true_eq] at *; omega) (fun a b=>by
  simp only [Bool.or_eq_true,decide_eq_true_eq]; omega) l
 exact h.imp fun {a b} hab=>by simpa using hab
theorem cH2 {l:List Int} {x:Int}:x∈nI l↔x∈l:=by
 unfold nI
 exact List.mem_mergeSort
theorem cM5 (F:List Int) (j:Nat) (h:j < F.length):F.toArray[j]! = F[j]:=by
 rw [getElem!_pos F.toArray j (by simpa using h)]
 simp
theorem aU3 {d:Array Int} (hd:∀ i j,i < j→j < d.size→d[i]! ≤ d[j]!):∀ m,m≤d.size→(∀ x,x∈compactUpTo d m↔∃ j,j < m∧d[j]! = x)∧(compactUpTo d m).Pairwise (fun x y=>x < y):=by
 intro m
 induction m with
 | zero=>intro _; exact ⟨fun x=>by simp [compactUpTo],by simp [compactUpTo]⟩
 | succ m ih =>
  intro hm
  obtain ⟨h1,h2⟩:=ih (by omega)
  rw [compactUpTo_succ]
  by_cases hk:keeps d m=true
  ·rw [if_pos hk]
   refine ⟨fun x=>?_,?_⟩
   ·rw [List.mem_append,h1,List.mem_singleton]
    constructor
    ·rintro (⟨j,hj,e⟩ | e)
     ·exact ⟨j,by omega,e⟩
     ·exact ⟨m,by omega,e.symm⟩
    ·rintro ⟨j,hj,e⟩
     by_cases hjm:j=m
     ·subst hjm; exact .inr e.symm
     ·exact .inl ⟨j,by omega,e⟩
   ·rw [List.pairwise_append]
    refine ⟨h2,List.pairwise_singleton _ _,fun x hx y hy=>?_⟩
    rw [List.mem_singleton] at hy
    subst hy
    obtain ⟨j,hj,rfl⟩:=(h1 x).1 hx
    have hne:d[m]! ≠ d[m - 1]! := by
     unfold keeps at hk
     rcases of_decide_eq_true hk with h | h
     ·omega
     ·exact h
    have hlt:d[m - 1]! < d[m]! := by have:=hd (m - 1) m (by omega) (by omega); omega
    by_cases hj1:j=m - 1
    ·rw [hj1]; exact hlt
    ·have:=hd j (m - 1) (by omega) (by omega); omega
  ·rw [if_neg hk,List.append_nil]
   refine ⟨fun x=>?_,h2⟩
   rw [h1]
   constructor
   ·rintro ⟨j,hj,e⟩
    exact ⟨j,by omega,e⟩
   ·rintro ⟨j,hj,e⟩
    by_cases hjm:j=m
    ·subst hjm
     unfold keeps at hk
     have hk2:¬ (j=0∨d[j]! ≠ d[j - 1]!):=fun h=>hk (decide_eq_true h)
     have hj0:j≠0:=fun h=>hk2 (.inl h)
     have he:d[j]! = d[j - 1]! := Classical.not_not.1 fun h=>hk2 (.inr h)
     exact ⟨j - 1,by omega,by rw [← he]; exact e⟩
    ·exact ⟨j,by omega,e⟩
theorem aE9 (l:List Int):(∀ x,x∈Lib.compact (nI l)↔x∈l)∧(Lib.compact (nI l)).Pairwise (fun x y=>x < y):=by
 have hs:=bM2 l
 rw [List.pairwise_iff_getElem] at hs
 obtain ⟨h1,h2⟩:=aU3 (d:=(nI l).toArray) (fun i j hij hj=>by
  have hj':j < (nI l).length:=by simpa using hj
  have:=hs i j (by omega) hj' hij
  rw [getElem!_pos (nI l).toArray j hj,getElem!_pos (nI l).toArray i (by omega)]
  simpa using this) (nI l).length (by simp)
 refine ⟨fun x=>?_,h2⟩
 have h3:x∈Lib.compact (nI l)↔∃ j,j < (nI l).length∧(nI l).toArray[j]! = x:=h1 x
 rw [h3,← cH2 (l:=l)]
 constructor
 ·rintro ⟨j,hj,rfl⟩
  rw [cM5 (nI l) j hj]
  exact List.getElem_mem hj
 ·intro hx
  obtain ⟨j,hj,rfl⟩:=List.getElem_of_mem hx
  exact ⟨j,hj,cM5 _ _ hj⟩
/-- Two rows that grow and have the same members are the same. -/
theorem bZ5:∀ (l m:List Int),l.Pairwise (fun x y=>x < y)→m.Pairwise (fun x y=>x < y)→(∀ x,x∈l↔x∈m)→l=m
 | [],[],_,_,_=>rfl
 | [],y :: m,_,_,h=>by have:=(h y).2 (by simp); cases this
 | x :: l,[],_,_,h=>by have:=(h x).1 (by simp); cases this
 | x :: l,y :: m,hl,hm,h=>by
  rw [List.pairwise_cons] at hl hm
  have hxy:x=y:=by
   have h1:=(h x).1 (by simp)
   have h2:=(h y).2 (by simp)
   rcases List.mem_cons.1 h1 with e | e
   ·exact e
   rcases List.mem_cons.1 h2 with e2 | e2
   ·exact e2.symm
   have:=hm.1 x e
   have:=hl.1 y e2
   omega
  subst hxy
  congr 1
  refine bZ5 l m hl.2 hm.2 fun z=>?_
  constructor
  ·intro hz
   rcases List.mem_cons.1 ((h z).1 (by simp [hz])) with e | e
   ·have:=hl.1 z hz; omega
   ·exact e
  ·intro hz
   rcases List.mem_cons.1 ((h z).2 (by simp [hz])) with e | e
   ·have:=hm.1 z hz; omega
   ·exact e
end Go.Vm.PgfG.L
namespace Go.Vm.PgfG.L
mutual
/-- The numbers of references,in order. -/
def nums:aC→List Int
 | ⟨k,v,_,_,l⟩=>(bif (k == (5:Int)) then [v] else [])++numsL l
def numsL:List aC→List Int
 | []=>[]
 | x :: l=>nums x++numsL l
end
theorem bH3:∀ o,nums o=(bif (o.f0 == (5:Int)) then [o.f1] else [])++numsL o.f4
 | ⟨_,_,_,_,_⟩=>by simp only [nums]
theorem bC3:∀ o,(nums o).length≤sz o
 | ⟨k,v,s,ks,l⟩=>by
  have h:∀ l:List aC,(∀ x∈l,(nums x).length≤sz x)→(numsL l).length≤szs l:=by
   intro l
   induction l with
   | nil=>intro _; simp [numsL]
   | cons x l ih =>
    intro h
    have:=ih fun y hy=>h y (by simp [hy])
    have:=h x (by simp)
    simp only [numsL,szs,List.length_append]
    omega
  have h1:=h l fun x _=>bC3 x
  simp only [nums,sz,List.length_append]
  cases (k == (5:Int)) <;> simp <;> omega
theorem cJ3 (l:List aC) (i:Nat) (h:i < l.length):szs (l.drop i)=sz (l.getD i ob0)+szs (l.drop (i+1)):=by
 rw [List.drop_eq_getElem_cons h,szs]
 simp [List.getD_eq_getElem?_getD,h]
theorem bA8 (l:List aC) (i:Nat) (h:i < l.length):numsL (l.drop i)=nums (l.getD i ob0)++numsL (l.drop (i+1)):=by
 rw [List.drop_eq_getElem_cons h,numsL]
 simp [List.getD_eq_getElem?_getD,h]
theorem bJ3:∀ (l:List aC) (x:aC),x∈l→sz x≤szs l
 | y :: l,x,h=>by
  simp only [szs]
  rcases List.mem_cons.1 h with rfl | h
  ·omega
  ·have:=bJ3 l x h; omega
theorem bJ5:∀ (l:List aC),l.length≤szs l
 | []=>by simp [szs]
 | x :: l=>by
  have:=bJ5 l
  have:1≤sz x:=by rw [aN3]; omega
  simp only [szs,List.length_cons]
  omega
theorem bO0 (l:List aC) (i:Nat) (h:i < l.length):l.getD i ob0∈l:=by
 simp [List.getD_eq_getElem?_getD,h]
theorem cS1 {F:Nat} (hF:4294967300≤F):∀ (m n:Nat) (o:aC) (c:List Int),sz o≤m→m < n→sz o≤5000→c.length+sz o≤100000→fZ F n o c=some (c++nums o):=by
 intro m
 induction m with
 | zero=>intro n o c h; rw [aN3] at h; omega
 | succ m ih =>
  intro n o c hm hn h1 h2
  obtain ⟨n,rfl⟩:∃ k,n=k+1:=⟨n - 1,by omega⟩
  change jT F (fZ F n) o c=_
  have hk:∀ x∈o.f4,∀ c:List Int,c.length+sz x≤100000→fZ F n x c=some (c++nums x):=by
   intro x hx c hc
   have:=bJ3 o.f4 x hx
   have:=aN3 o
   exact ih n x c (by omega) (by omega) (by omega) hc
  generalize fZ F n=f at hk
  have hlen:=bJ5 o.f4
  have hso:=aN3 o
  have loop:∀ (j i q:Nat) (c:List Int),i+j=o.f4.length→j < q→c.length+szs (o.f4.drop i)≤100000→gC F o f q i c=some (c++numsL (o.f4.drop i)):=by
   intro j
   induction j with
   | zero =>
    intro i q c hj hq _
    obtain ⟨q,rfl⟩:∃ k,q=k+1:=⟨q - 1,by omega⟩
    obtain rfl:i=o.f4.length:=by omega
    rw [gC,iQ,cond_false,List.drop_length,numsL,List.append_nil]
   | succ j ihj =>
    intro i q c hj hq hc
    obtain ⟨q,rfl⟩:∃ k,q=k+1:=⟨q - 1,by omega⟩
    have hi:i < o.f4.length:=by omega
    rw [cJ3 _ _ hi] at hc
    have hnl:=bC3 (o.f4.getD i ob0)
    rw [gC,dec_lt hi,cond_true,iM hi,Int.toNat_natCast]
    change (call (f (o.f4.getD i ob0) c) fun y1=>gC F o f q (IntKind.i64.wrap ((i:Int)+1)) y1)=_
    rw [hk _ (bO0 _ _ hi) c (by omega),aN,eQ (by omega),ihj (i+1) q _ (by omega) (by omega) (by rw [List.length_append]; omega),bA8 _ _ hi,List.append_assoc]
  unfold jT
  rw [bH3]
  cases h5:(o.f0 == (5:Int))
  ·rw [cond_false,aN,Int.ofNat_zero.symm,loop o.f4.length 0 F c (by omega) (by omega) (by rw [List.drop_zero]; omega),aN]
   rfl
  ·rw [cond_true,bN (by rw [List.length_singleton]; omega),aN,Int.ofNat_zero.symm,loop o.f4.length 0 F _ (by omega) (by omega) (by rw [List.drop_zero,List.length_append,List.length_singleton]; omega),aN,List.drop_zero,List.append_assoc]
   rfl
/-- What is marked. -/
def vS (l:List Int) (c:List Bool):List Bool:=l.foldl (fun c v=>c.set v.toNat true) c
theorem aQ3:∀ (l:List Int) (c:List Bool),(vS l c).length=c.length
 | [],_=>rfl
 | x :: l,c=>by
  have:=aQ3 l (c.set x.toNat true)
  rwa [List.length_set] at this
theorem bF3 (l m:List Int) (c:List Bool):vS (l++m) c=vS m (vS l c):=by simp [vS]
theorem aF5:∀ (l:List Int) (c:List Bool) (j:Nat),j < c.length→(∀ v∈l,0 < v)→((vS l c).getD j false=true↔c.getD j false=true∨(j:Int)∈l)
 | [],c,j,_,_=>by simp [vS]
 | x :: l,c,j,hj,hv=>by
  have h:=aF5 l (c.set x.toNat true) j (by rwa [List.length_set]) (fun v h=>hv v (by simp [h]))
  have hx:=hv x (by simp)
  change ((vS l (c.set x.toNat true)).getD j false=true↔_)
  rw [h,List.mem_cons]
  simp only [List.getD_eq_getElem?_getD,List.getElem?_set]
  by_cases hxj:x.toNat=j
  ·rw [if_pos hxj]
   subst hxj
   rw [if_pos hj]
   have:((x.toNat:Nat):Int)=x:=by omega
   simp [this]
  ·rw [if_neg hxj]
   have:(j:Int)≠x:=by omega
   simp [this]
theorem sV {F:Nat}:∀ {o:aC},OOk F o→∀ v∈nums o,0 < v∧v < 256:=by
 intro o h
 induction h with
 | @mk o h hr hk ih =>
  intro v hv
  rw [bH3] at hv
  rcases List.mem_append.1 hv with hv | hv
  ·cases h5:(o.f0 == (5:Int))
   ·rw [h5] at hv; cases hv
   ·rw [h5] at hv
    simp only [cond_true,List.mem_singleton] at hv
    subst hv
    exact hr (by simpa using h5)
  ·have key:∀ l:List aC,(∀ x∈l,∀ v∈nums x,0 < v∧v < 256)→v∈numsL l→0 < v∧v < 256:=by
    intro l
    induction l with
    | nil=>intro _ h; cases h
    | cons x l ihl =>
     intro h1 h2
     simp only [numsL,List.mem_append] at h2
     rcases h2 with h2 | h2
     ·exact h1 x (by simp) v h2
     ·exact ihl (fun y hy=>h1 y (by simp [hy])) h2
   exact key o.f4 ih hv
theorem bV8 {F:Nat} (hF:4294967300≤F):∀ (m n:Nat) (o:aC) (c:List Bool),OOk F o→sz o≤m→m < n→sz o≤5000→c.length=256→gX F n o c=some (vS (nums o) c):=by
 intro m
 induction m with
 | zero=>intro n o c _ h; rw [aN3] at h; omega
 | succ m ih =>
  intro n o c ho hm hn h1 h2
  obtain ⟨n,rfl⟩:∃ k,n=k+1:=⟨n - 1,by omega⟩
  change lK F (gX F n) o c=_
  obtain ⟨hnode,hr,hko⟩:=ho
  have hk:∀ x∈o.f4,∀ c:List Bool,c.length=256→gX F n x c=some (vS (nums x) c):=by
   intro x hx c hc
   have:=bJ3 o.f4 x hx
   have:=aN3 o
   exact ih n x c (hko x hx) (by omega) (by omega) (by omega) hc
  generalize gX F n=f at hk
  have hlen:=bJ5 o.f4
  have hso:=aN3 o
  have loop:∀ (j i q:Nat) (c:List Bool),i+j=o.f4.length→j < q→c.length=256→iK F o f q i c=some (vS (numsL (o.f4.drop i)) c):=by
   intro j
   induction j with
   | zero =>
    intro i q c hj hq _
    obtain ⟨q,rfl⟩:∃ k,q=k+1:=⟨q - 1,by omega⟩
    obtain rfl:i=o.f4.length:=by omega
    rw [iK,iQ,cond_false,List.drop_length]
    rfl
   | succ j ihj =>
    intro i q c hj hq hc
    obtain ⟨q,rfl⟩:∃ k,q=k+1:=⟨q - 1,by omega⟩
    have hi:i < o.f4.length:=by omega
    rw [iK,dec_lt hi,cond_true,iM hi,Int.toNat_natCast]
    change (call (f (o.f4.getD i ob0) c) fun y1=>iK F o f q (IntKind.i64.wrap ((i:Int)+1)) y1)=_
    rw [hk _ (bO0 _ _ hi) c hc,aN,eQ (by omega),ihj (i+1) q _ (by omega) (by omega) (by rw [aQ3]; exact hc),bA8 _ _ hi,bF3]
  unfold lK
  rw [bH3,bF3]
  cases h5:(o.f0 == (5:Int))
  ·rw [cond_false,cond_false,cond_false,bR,cond_false,aN,Int.ofNat_zero.symm,loop o.f4.length 0 F c (by omega) (by omega) h2,aN]
   rfl
  ·obtain ⟨r1,r2⟩:=hr (by simpa using h5)
   have d1:decide (o.f1 > (0:Int))=true:=decide_eq_true r1
   have d2:decide (o.f1 < (256:Int))=true:=decide_eq_true r2
   rw [cond_true,d1,cond_true,d2,bR,cond_true,bN ⟨⟨by omega,r2⟩,by rw [h2]; exact r2⟩,aN,Int.ofNat_zero.symm,loop o.f4.length 0 F _ (by omega) (by omega) (by rw [List.length_set]; exact h2),aN]
   rfl
/-- The marked places. -/
def wants (y:List Bool) (i:Nat):List Int:=((List.range' i (256 - i)).filter fun j=>y.getD j false).map fun j:Nat=>(j:Int)
theorem cE9 {y:List Bool} {x:Int}:x∈wants y 0↔∃ j:Nat,j < 256∧y.getD j false=true∧x=j:=by
 unfold wants
 simp only [List.mem_map,List.mem_filter,List.mem_range'_1]
 constructor
 ·rintro ⟨j,⟨h1,h2⟩,rfl⟩
  exact ⟨j,by omega,h2,rfl⟩
 ·rintro ⟨j,h1,h2,rfl⟩
  exact ⟨j,⟨by omega,h2⟩,rfl⟩
theorem bX1 {y:List Bool}:(wants y 0).Pairwise (fun x y=>x < y):=by
 unfold wants
 rw [List.pairwise_map]
 refine List.Pairwise.filter _ ?_
 refine (List.pairwise_lt_range' (s:=0) (n:=256)).imp fun {a b} h=>by exact_mod_cast h
end Go.Vm.PgfG.L
namespace Go.Vm.PgfG.L
open Go.Lib Go.Sort
set_option maxRecDepth 100000 in
theorem bN7 (n:Nat):pF (n+400)=some true:=by kernel_rfl
/-- The item at a place. -/
abbrev it (l:List aJ) (i:Nat):aJ:=l.getD i (aJ.mk 0 (aC.mk 0 0 [] [] []) [])
theorem cY2:∀ s:Nat,s < 200→IntKind.i64.wrap ((IntKind.u64.wrap (IntKind.i64.wrap (s:Int))).fdiv (2 ^ (min (1:Int).toNat IntKind.u64.bits)))=((s / 2:Nat):Int):=by decide +kernel
theorem wrap_zero {a x:Int} (ha:0 < a∧a < 256) (hx : -9223372036854775808≤x∧x≤9223372036854775807):(IntKind.i64.wrap (a - x) == 0)=(a == x):=by
 have h:IntKind.i64.wrap (a - x)=0↔a=x:=by
  by_cases h : -9223372036854775808≤a - x∧a - x≤9223372036854775807
  ·rw [oD h]; omega
  ·have e:IntKind.i64.wrap (a - x)=IntKind.i64.wrap (a - x - 18446744073709551616):=by
    unfold IntKind.wrap
    simp [IntKind.bits,IntKind.signed,Int.bmod_def]
    try omega
   rw [e,oD (by omega)]
   omega
 rw [Bool.eq_iff_iff]
 simpa using h
/-- The numbers of items,in order. -/
structure Ord (l:List aJ):Prop where
 rng:∀ i,i < l.length→0 < (it l i).f0∧(it l i).f0 < 256
 inc:∀ i k,i < k→k < l.length→(it l i).f0 < (it l k).f0
theorem bs {F:Nat} {l:List aJ} {x:Int} (hl:l.length≤64):∀ (j lo hi n:Nat),lo+j=hi→hi≤l.length→j < n →
  ∃ p:Nat,lo≤p∧p≤hi∧bU F l x n (lo:Int) (hi:Int)=some (p:Int) ∧
   (Ord l→(0 < x∧x < 256)→(∀ i,i < lo→(it l i).f0 < x)→(∀ i,hi≤i→i < l.length→x≤(it l i).f0)→(∀ i,i < p→(it l i).f0 < x)∧∀ i,p≤i→i < l.length→x≤(it l i).f0):=by
 intro j
 induction j using Nat.strongRecOn with
 | _ j ih =>
  intro lo hi n h hh hn
  obtain ⟨n,rfl⟩:∃ k,n=k+1:=⟨n - 1,by omega⟩
  by_cases h0:j=0
  ·obtain rfl:lo=hi:=by omega
   refine ⟨lo,Nat.le_refl _,Nat.le_refl _,?_,fun _ _ a b=>⟨a,b⟩⟩
   rw [bU,iQ,cond_false]
  ·have hm:(lo+hi) / 2 < l.length:=by omega
   have hstep:bU F l x (n+1) (lo:Int) (hi:Int)=bif decide (IntKind.i64.wrap ((it l ((lo+hi) / 2)).f0 - x) < 0) then bU F l x n (((lo+hi) / 2+1:Nat):Int) (hi:Int) else bU F l x n (lo:Int) (((lo+hi) / 2:Nat):Int):=by
    rw [bU,dec_lt (by omega),cond_true,bR,show ((lo:Int)+(hi:Int))=((lo+hi:Nat):Int) by omega,cY2 _ (by omega),iM hm,eQ (by omega)]
    rfl
   by_cases hc:IntKind.i64.wrap ((it l ((lo+hi) / 2)).f0 - x) < 0
   ·obtain ⟨p,p1,p2,p3,p4⟩:=ih (hi - ((lo+hi) / 2+1)) (by omega) ((lo+hi) / 2+1) hi n (by omega) hh (by omega)
    refine ⟨p,by omega,p2,by rw [hstep,decide_eq_true hc,cond_true,p3],fun ho hx a b=>p4 ho hx ?_ b⟩
    have hr:=ho.rng _ hm
    rw [oD (by omega)] at hc
    intro i hi'
    by_cases he:i=(lo+hi) / 2
    ·subst he; omega
    ·have:=ho.inc i ((lo+hi) / 2) (by omega) hm; omega
   ·obtain ⟨p,p1,p2,p3,p4⟩:=ih ((lo+hi) / 2 - lo) (by omega) lo ((lo+hi) / 2) n (by omega) (by omega) (by omega)
    refine ⟨p,p1,by omega,by rw [hstep,decide_eq_false hc,cond_false,p3],fun ho hx a b=>p4 ho hx a ?_⟩
    have hr:=ho.rng _ hm
    rw [oD (by omega)] at hc
    intro i hi' hi2
    by_cases he:i=(lo+hi) / 2
    ·subst he; omega
    ·have:=ho.inc ((lo+hi) / 2) i (by omega) hi2; omega
theorem find_eq {F:Nat} (hF:65≤F) {d:bC} (hl:d.f1.length≤64) (ho:Ord d.f1) {x:Int} (hx : -9223372036854775808≤x∧x≤9223372036854775807) :
  ∃ (p:Nat) (b:Bool),gW F d x=some ((p:Int),b)∧(b=true→p < d.f1.length∧(it d.f1 p).f0=x)∧(b=false→∀ k,k < d.f1.length→(it d.f1 k).f0≠x):=by
 obtain ⟨p,p1,p2,p3,p4⟩:=bs (F:=F) (x:=x) hl d.f1.length 0 d.f1.length F (by omega) (Nat.le_refl _) (by omega)
 rw [Int.natCast_zero] at p3
 refine ⟨p,decide (p < d.f1.length) && ((it d.f1 p).f0 == x),?_,?_,?_⟩
 ·unfold gW gU
  rw [p3,aN]
  by_cases hp:p < d.f1.length
  ·rw [dec_lt hp,bN (fun _=>by omega),decide_eq_true hp,Bool.true_and,← wrap_zero (ho.rng p hp) hx]
   rfl
  ·obtain rfl:p=d.f1.length:=by omega
   rw [iQ,bN (fun h=>by cases h),decide_eq_false hp]
   rfl
 ·intro h
  simp only [Bool.and_eq_true,decide_eq_true_eq,beq_iff_eq] at h
  exact h
 ·intro h k hk he
  have hr:=ho.rng k hk
  obtain ⟨q1,q2⟩:=p4 ho (by omega) (fun i hi=>by omega) (fun i h1 h2=>by omega)
  by_cases h1:k < p
  ·have:=q1 k h1; omega
  ·have hp:p < d.f1.length:=by omega
   have h2:=q2 p (Nat.le_refl _) hp
   have h3:(it d.f1 p).f0≠x:=by
    intro h'
    rw [decide_eq_true hp,h',beq_self_eq_true] at h
    cases h
   by_cases h4:k=p
   ·subst h4; exact h3 he
   ·have:=ho.inc p k (by omega) hk; omega
/-- Refs of a good object. -/
theorem bY5 {F:Nat} (hF:4294967300≤F) {o:aC} (hok:OOk F o) (hsz:sz o≤4096) (hc:jL F o=some 0) :
  ∃ l:List Int,qO F o=some (l,0)∧l.length≤256∧∀ x,x∈l↔x∈nums o:=by
 have hnl:=bC3 o
 have hr:vW F o []=some ([]++nums o):=cS1 (by omega) (sz o) F o [] (Nat.le_refl _) (by omega) (by omega) (by rw [List.length_nil]; omega)
 obtain ⟨c0,hc0⟩:∃ c,c=List.replicate 256 false:=⟨_,rfl⟩
 have hcl:c0.length=256:=by rw [hc0]; exact List.length_replicate
 have hcg:∀ j,c0.getD j false=false:=by
  intro j
  rw [hc0,List.getD_eq_getElem?_getD,List.getElem?_replicate]
  split <;> rfl
 have heq:Lib.compact (nI (nums o))=wants (vS (nums o) c0) 0:=by
  refine bZ5 _ _ (aE9 _).2 bX1 fun x=>?_
  rw [(aE9 _).1,cE9]
  constructor
  ·intro hx
   obtain ⟨r1,r2⟩:=sV hok x hx
   refine ⟨x.toNat,by omega,(aF5 _ _ _ (by rw [hcl]; omega) fun v hv=>(sV hok v hv).1).2 (.inr ?_),by omega⟩
   rwa [show ((x.toNat:Nat):Int)=x by omega]
  ·rintro ⟨j,hj,hm,rfl⟩
   rcases (aF5 _ _ _ (by rw [hcl]; exact hj) fun v hv=>(sV hok v hv).1).1 hm with h | h
   ·rw [hcg] at h; cases h
   ·exact h
 have hwl:(wants (vS (nums o) c0) 0).length≤256:=by
  unfold wants
  rw [List.length_map]
  refine Nat.le_trans (List.length_filter_le _ _) ?_
  rw [List.length_range']
  omega
 refine ⟨Lib.compact (nI (nums o)),?_,by rw [heq]; exact hwl,(aE9 _).1⟩
 unfold qO
 rw [hc,aN,bne_self_eq_false,cond_false,hr,aN,List.nil_append,bN (by omega),bN (by rw [bE8]; omega)]
end Go.Vm.PgfG.L
namespace Go.Vm.PgfG.L
open Go.Lib Go.Sort
theorem cP9 {F:Nat} (hF:4294967300≤F) (hF2:maxLen < F) {o:aC} (hs:Sm o):∃ e s,jL F o=some e∧qB F o=some (s,e)∧(e=0→OOk F o∧sz o≤4096):=by
 obtain ⟨e,s,h1,h2,h3⟩:=cO9 hF hF2 hs
 refine ⟨e,s,?_,h2,h3⟩
 unfold jL
 rw [h1,aN]
structure Good (F:Nat) (l:List aJ) (k:Nat):Prop where
 rng:0 < (it l k).f0∧(it l k).f0 < 256
 ok:OOk F (it l k).f1
 sz:sz (it l k).f1≤4096
 chk:jL F (it l k).f1=some 0
 inc:0 < k→(it l (k - 1)).f0 < (it l k).f0
structure Tab (h u:List Bool) (l:List aJ) (i:Nat):Prop where
 hl:h.length=256
 ul:u.length=256
 hh:∀ j,j < 256→(h.getD j false=true↔∃ k,k < i∧(it l k).f0=(j:Int))
 uu:∀ j,j < 256→(u.getD j false=true↔∃ k,k < i∧(j:Int)∈nums (it l k).f1)
theorem cU0 {c:List Bool} {m j:Nat} (hm:m < c.length):(c.set m true).getD j false=true↔c.getD j false=true∨m=j:=by
 simp only [List.getD_eq_getElem?_getD,List.getElem?_set]
 by_cases h:m=j
 ·subst h; simp [hm]
 ·simp [h]
theorem Tab.step {F:Nat} {h u:List Bool} {l:List aJ} {i:Nat} (t:Tab h u l i) (g:Good F l i):Tab (h.set (it l i).f0.toNat true) (vS (nums (it l i).f1) u) l (i+1) where
 hl:=by rw [List.length_set]; exact t.hl
 ul:=by rw [aQ3]; exact t.ul
 hh:=by
  intro j hj
  have hr:=g.rng
  rw [cU0 (by rw [t.hl]; omega),t.hh j hj]
  constructor
  ·rintro (⟨k,h1,h2⟩ | h)
   ·exact ⟨k,by omega,h2⟩
   ·exact ⟨i,by omega,by omega⟩
  ·rintro ⟨k,h1,h2⟩
   by_cases hk:k=i
   ·subst hk; exact .inr (by omega)
   ·exact .inl ⟨k,by omega,h2⟩
 uu:=by
  intro j hj
  rw [aF5 _ _ _ (by rw [t.ul]; exact hj) fun v hv=>(sV g.ok v hv).1,t.uu j hj]
  constructor
  ·rintro (⟨k,h1,h2⟩ | h)
   ·exact ⟨k,by omega,h2⟩
   ·exact ⟨i,by omega,h⟩
  ·rintro ⟨k,h1,h2⟩
   by_cases hk:k=i
   ·subst hk; exact .inr h2
   ·exact .inl ⟨k,by omega,h2⟩
theorem cW7 {l:List aJ} {i:Nat} (h:i < l.length):it l i∈l:=by
 simp [it,List.getD_eq_getElem?_getD,h]
theorem scan {F:Nat} (hF:4294967300≤F) (hF2:maxLen < F) {d:bC} (hs:∀ x∈d.f1,Sm x.f1) (hl:d.f1.length≤64) :
  ∀ (j i n:Nat) (v1:Int) (h u:List Bool),i+j=d.f1.length→j < n→(i=0→v1=0)→(0 < i→v1=(it d.f1 (i - 1)).f0)→Tab h u d.f1 i→(∀ k,k < i→Good F d.f1 k) →
   (∃ e,eT F d n v1 (i:Int)=some (.esc e)∧fE F d n h u (i:Int)=some (.esc e)) ∨
   (∃ h' u',eT F d n v1 (i:Int)=some (.go ())∧fE F d n h u (i:Int)=some (.go (h',u'))∧Tab h' u' d.f1 d.f1.length∧∀ k,k < d.f1.length→Good F d.f1 k):=by
 intro j
 induction j with
 | zero =>
  intro i n v1 h u hi hn _ _ ht hg
  obtain ⟨n,rfl⟩:∃ k,n=k+1:=⟨n - 1,by omega⟩
  obtain rfl:i=d.f1.length:=by omega
  refine .inr ⟨h,u,?_,?_,ht,hg⟩
  ·rw [eT,iQ,cond_false]
  ·rw [fE,iQ,cond_false]
 | succ j ih =>
  intro i n v1 h u hj hn hv0 hv1 ht hg
  obtain ⟨n,rfl⟩:∃ k,n=k+1:=⟨n - 1,by omega⟩
  have hi:i < d.f1.length:=by omega
  have hA:eT F d (n+1) v1 (i:Int) =
    bif (bif decide ((it d.f1 i).f0 < 1) then true else decide ((it d.f1 i).f0 > 255)) then some (.esc 3) else
    bif decide ((it d.f1 i).f0≤v1) then some (.esc 18) else
    call (jL F (it d.f1 i).f1) fun y1 =>
    bif y1 != 0 then some (.esc y1) else
    bif decide (((it d.f1 i).f2.length:Int) > 4096) then some (.esc 2) else
    eT F d n (it d.f1 i).f0 ((i+1:Nat):Int):=by
   rw [eT,dec_lt hi,cond_true,iM hi,eQ (by omega)]
   rfl
  have hp:((((decide ((i:Int) > (0:Int))) == true) && true)=true→0≤(IntKind.i64.wrap ((i:Int) - (1:Int)))∧(IntKind.i64.wrap ((i:Int) - (1:Int))) < (d.f1.length:Int)):=by
   intro h
   have h:0 < i:=by simpa using h
   rw [qJ h (by omega)]
   omega
  have hB:fE F d (n+1) h u (i:Int) =
    bif (bif decide ((it d.f1 i).f0 < 1) then true else decide ((it d.f1 i).f0 > 255)) then some (.esc 3) else
    bif (bif decide ((i:Int) > 0) then decide ((it d.f1 i).f0≤(it d.f1 (IntKind.i64.wrap ((i:Int) - (1:Int))).toNat).f0) else false) then some (.esc 18) else
    call (qB F (it d.f1 i).f1) fun y1 =>
    bif y1.2 != 0 then some (.esc y1.2) else
    bif decide (((it d.f1 i).f2.length:Int) > 4096) then some (.esc 2) else
    chk ((0≤(it d.f1 i).f0∧(it d.f1 i).f0 < 256)∧(it d.f1 i).f0 < h.length) <|
    call (vL F (it d.f1 i).f1 u) fun y2 =>
    fE F d n (h.set (it d.f1 i).f0.toNat true) y2 ((i+1:Nat):Int):=by
   rw [fE,dec_lt hi,cond_true,iM hi]
   simp only [bR]
   rw [bN hp,eQ (by omega)]
   rfl
  rw [hA,hB]
  by_cases hz:(it d.f1 i).f0 < 1∨(it d.f1 i).f0 > 255
  ·have hz':(bif decide ((it d.f1 i).f0 < 1) then true else decide ((it d.f1 i).f0 > 255))=true:=by
    rw [aG2]; simpa using hz
   rw [hz',cond_true,cond_true]
   exact .inl ⟨3,rfl,rfl⟩
  have hz':(bif decide ((it d.f1 i).f0 < 1) then true else decide ((it d.f1 i).f0 > 255))=false:=by
   rw [aG2]; simpa using hz
  have hq:(bif decide ((i:Int) > 0) then decide ((it d.f1 i).f0≤(it d.f1 (IntKind.i64.wrap ((i:Int) - (1:Int))).toNat).f0) else false)=decide ((it d.f1 i).f0≤v1):=by
   by_cases h0:i=0
   ·rw [hv0 h0,decide_eq_false (show ¬ (i:Int) > 0 by omega),decide_eq_false (show ¬ (it d.f1 i).f0≤0 by omega)]
    rfl
   ·rw [hv1 (by omega),decide_eq_true (show (i:Int) > 0 by omega),qJ (by omega) (by omega)]
    rfl
  rw [hz',hq,cond_false,cond_false]
  by_cases hv:(it d.f1 i).f0≤v1
  ·rw [decide_eq_true hv]
   exact .inl ⟨18,rfl,rfl⟩
  rw [decide_eq_false hv,cond_false,cond_false]
  obtain ⟨e,s,c1,c2,c3⟩:=cP9 hF hF2 (hs _ (cW7 hi))
  rw [c1,c2,aN,aN]
  by_cases he:e=0
  ·subst he
   obtain ⟨hok,hsz⟩:=c3 rfl
   simp only [bne_self_eq_false,cond_false]
   by_cases hb:((it d.f1 i).f2.length:Int) > 4096
   ·rw [decide_eq_true hb]
    exact .inl ⟨2,rfl,rfl⟩
   have hgi:Good F d.f1 i:=⟨by omega,hok,hsz,c1,fun h0=>by rw [← hv1 h0]; omega⟩
   have hn:vL F (it d.f1 i).f1 u=some (vS (nums (it d.f1 i).f1) u):=bV8 (by omega) (L.sz (it d.f1 i).f1) F _ _ hok (Nat.le_refl _) (by omega) (by omega) ht.ul
   rw [decide_eq_false hb,cond_false,cond_false,bN ⟨by omega,by rw [ht.hl]; omega⟩,hn,aN]
   exact ih (i+1) n _ _ _ (by omega) (by omega) (fun h=>by omega) (fun _=>by rw [Nat.add_sub_cancel]) (ht.step hgi) (fun k hk=>by
    by_cases hki:k=i
    ·subst hki; exact hgi
    ·exact hg k (by omega))
  ·have hne:(e != 0)=true:=by simpa using he
   simp only [hne,cond_true]
   exact .inl ⟨e,rfl,rfl⟩
end Go.Vm.PgfG.L
namespace Go.Vm.PgfG.L
open Go.Lib Go.Sort
theorem cF8 {F:Nat} (hF:4294967300≤F) {d:bC} (hl:d.f1.length≤64) (ho:Ord d.f1) (y:(List Int)×Int) (hy:y.1.length≤256) (hr:∀ x∈y.1,0 < x∧x < 256) :
  ∀ (j i n:Nat),i+j=y.1.length→j < n →
   (dY F d y n (i:Int)=some (.esc 8)∧∃ x,x∈y.1∧∀ k,k < d.f1.length→(it d.f1 k).f0≠x) ∨
   (dY F d y n (i:Int)=some (.go ())∧∀ q,i≤q→q < y.1.length→∃ k,k < d.f1.length∧(it d.f1 k).f0=y.1.getD q 0):=by
 intro j
 induction j with
 | zero =>
  intro i n h hn
  obtain ⟨n,rfl⟩:∃ k,n=k+1:=⟨n - 1,by omega⟩
  obtain rfl:i=y.1.length:=by omega
  refine .inr ⟨?_,fun q h1 h2=>by omega⟩
  rw [dY,iQ,cond_false]
 | succ j ih =>
  intro i n h hn
  obtain ⟨n,rfl⟩:∃ k,n=k+1:=⟨n - 1,by omega⟩
  have hi:i < y.1.length:=by omega
  have hm:y.1.getD i 0∈y.1:=by simp [List.getD_eq_getElem?_getD,hi]
  have hx:=hr _ hm
  obtain ⟨p,b,f1,f2,f3⟩:=find_eq (F:=F) (by omega) hl ho (x:=y.1.getD i 0) (by omega)
  have hA:dY F d y (n+1) (i:Int)=bif !b then some (.esc 8) else dY F d y n ((i+1:Nat):Int):=by
   rw [dY,dec_lt hi,cond_true,iM hi,Int.toNat_natCast,f1,aN,eQ (by omega)]
  rw [hA]
  cases b with
  | false=>exact .inl ⟨rfl,_,hm,f3 rfl⟩
  | true =>
   rw [Bool.not_true,cond_false]
   rcases ih (i+1) n (by omega) (by omega) with h' | ⟨h1,h2⟩
   ·exact .inl h'
   ·refine .inr ⟨h1,fun q q1 q2=>?_⟩
    by_cases hq:q=i
    ·subst hq; exact ⟨p,f2 rfl⟩
    ·exact h2 q (by omega) q2
theorem cQ4 {F:Nat} (hF:4294967300≤F) {d:bC} (hl:d.f1.length≤64) (ho:Ord d.f1) (hg:∀ k,k < d.f1.length→Good F d.f1 k) :
  ∀ (j i n:Nat),i+j=d.f1.length→j < n →
   (eU F d n (i:Int)=some (.esc 8)∧∃ k,k < d.f1.length∧∃ x,x∈nums (it d.f1 k).f1∧∀ k',k' < d.f1.length→(it d.f1 k').f0≠x) ∨
   (eU F d n (i:Int)=some (.go ())∧∀ k,i≤k→k < d.f1.length→∀ x∈nums (it d.f1 k).f1,∃ k',k' < d.f1.length∧(it d.f1 k').f0=x):=by
 intro j
 induction j with
 | zero =>
  intro i n h hn
  obtain ⟨n,rfl⟩:∃ k,n=k+1:=⟨n - 1,by omega⟩
  obtain rfl:i=d.f1.length:=by omega
  refine .inr ⟨?_,fun q h1 h2=>by omega⟩
  rw [eU,iQ,cond_false]
 | succ j ih =>
  intro i n h hn
  obtain ⟨n,rfl⟩:∃ k,n=k+1:=⟨n - 1,by omega⟩
  have hi:i < d.f1.length:=by omega
  have g:=hg i hi
  obtain ⟨l,r1,r2,r3⟩:=bY5 hF g.ok g.sz g.chk
  have hA:eU F d (n+1) (i:Int)=dO (dY F d (l,0) F (0:Int)) (fun e=>some (.esc e)) fun _=>eU F d n ((i+1:Nat):Int):=by
   rw [eU,dec_lt hi,cond_true,iM hi,Int.toNat_natCast]
   change call (qO F (it d.f1 i).f1) _=_
   rw [r1,aN,eQ (by omega)]
  rw [hA]
  have hw:=cF8 hF hl ho (l,0) r2 (fun x hx=>sV g.ok x ((r3 x).1 hx)) l.length 0 F (by simp) (by omega)
  rw [Int.natCast_zero] at hw
  rcases hw with ⟨w1,x,w2,w3⟩ | ⟨w1,w2⟩
  ·rw [w1]
   exact .inl ⟨rfl,i,hi,x,(r3 x).1 w2,w3⟩
  ·rw [w1,cK]
   rcases ih (i+1) n (by omega) (by omega) with h' | ⟨h1,h2⟩
   ·exact .inl h'
   ·refine .inr ⟨h1,fun k k1 k2 x hx=>?_⟩
    by_cases hk:k=i
    ·subst hk
     obtain ⟨q,hq,rfl⟩:=List.mem_iff_getElem.1 ((r3 x).2 hx)
     obtain ⟨k',e1,e2⟩:=w2 q (Nat.zero_le _) hq
     refine ⟨k',e1,?_⟩
     rw [e2]
     simp [List.getD_eq_getElem?_getD,hq]
    ·exact h2 k (by omega) k2 x hx
theorem cP2 {F:Nat} {h u:List Bool} (hh:h.length=256) (hu:u.length=256):∀ (j i n:Nat),i+j=256→j < n →
   (fD F h u n (i:Int)=some (.esc 8)∧∃ q,q < 256∧u.getD q false=true∧h.getD q false=false) ∨
   (fD F h u n (i:Int)=some (.go ())∧∀ q,i≤q→q < 256→u.getD q false=true→h.getD q false=true):=by
 intro j
 induction j with
 | zero =>
  intro i n h' hn
  obtain ⟨n,rfl⟩:∃ k,n=k+1:=⟨n - 1,by omega⟩
  obtain rfl:i=256:=by omega
  refine .inr ⟨?_,fun q h1 h2=>by omega⟩
  rw [fD,show decide (((256:Nat):Int) < (256:Int))=false from rfl,cond_false]
 | succ j ih =>
  intro i n h' hn
  obtain ⟨n,rfl⟩:∃ k,n=k+1:=⟨n - 1,by omega⟩
  have hd:decide ((i:Int) < (256:Int))=true:=decide_eq_true (by omega)
  have hA:fD F h u (n+1) (i:Int)=bif (bif u.getD i false then !(h.getD i false) else false) then some (.esc 8) else fD F h u n ((i+1:Nat):Int):=by
   rw [fD,hd,cond_true,bN ⟨⟨by omega,by omega⟩,by rw [hu]; omega⟩,bN (fun _=>⟨⟨by omega,by omega⟩,by rw [hh]; omega⟩),Int.toNat_natCast,eQ (by omega)]
  rw [hA]
  by_cases hb:u.getD i false=true∧h.getD i false=false
  ·rw [hb.1,hb.2]
   exact .inl ⟨rfl,i,by omega,hb.1,hb.2⟩
  ·have hb':(bif u.getD i false then !(h.getD i false) else false)=false:=by
    revert hb
    cases u.getD i false <;> cases h.getD i false <;> simp
   rw [hb',cond_false]
   rcases ih (i+1) n (by omega) (by omega) with h' | ⟨h1,h2⟩
   ·exact .inl h'
   ·refine .inr ⟨h1,fun k k1 k2 hx=>?_⟩
    by_cases hk:k=i
    ·subst hk
     revert hb
     rw [hx]
     cases h.getD k false <;> simp
    ·exact h2 k (by omega) k2 hx
theorem cH4 {F:Nat} {d:bC} (hl:d.f1.length≤64):∀ (j i n:Nat),i+j=d.f1.length→j < n →
   (∃ p,p < d.f1.length∧(it d.f1 p).f0=d.f0∧fC F d n (i:Int)=some (.esc (bif (it d.f1 p).f1.f0 != 7 then 14 else 0))) ∨
   (fC F d n (i:Int)=some (.go ())∧∀ k,i≤k→k < d.f1.length→(it d.f1 k).f0≠d.f0):=by
 intro j
 induction j with
 | zero =>
  intro i n h' hn
  obtain ⟨n,rfl⟩:∃ k,n=k+1:=⟨n - 1,by omega⟩
  obtain rfl:i=d.f1.length:=by omega
  refine .inr ⟨?_,fun q h1 h2=>by omega⟩
  rw [fC,iQ,cond_false]
 | succ j ih =>
  intro i n h' hn
  obtain ⟨n,rfl⟩:∃ k,n=k+1:=⟨n - 1,by omega⟩
  have hi:i < d.f1.length:=by omega
  have hA:fC F d (n+1) (i:Int)=bif (it d.f1 i).f0 == d.f0 then (bif (it d.f1 i).f1.f0 != 7 then some (.esc 14) else some (.esc 0)) else fC F d n ((i+1:Nat):Int):=by
   rw [fC,dec_lt hi,cond_true,iM hi,eQ (by omega)]
   rfl
  rw [hA]
  by_cases hr:(it d.f1 i).f0=d.f0
  ·refine .inl ⟨i,hi,hr,?_⟩
   rw [hr,beq_self_eq_true,cond_true]
   cases (it d.f1 i).f1.f0 != 7 <;> rfl
  ·have hr':((it d.f1 i).f0 == d.f0)=false:=by simpa using hr
   rw [hr',cond_false]
   rcases ih (i+1) n (by omega) (by omega) with h' | ⟨h1,h2⟩
   ·exact .inl h'
   ·refine .inr ⟨h1,fun k k1 k2=>?_⟩
    by_cases hk:k=i
    ·subst hk; exact hr
    ·exact h2 k (by omega) k2
theorem cX3 {F:Nat} {l:List aJ} (hg:∀ k,k < l.length→Good F l k):Ord l where
 rng:=fun i hi=>(hg i hi).rng
 inc:=by
  intro i k hik
  induction k with
  | zero=>omega
  | succ k ih =>
   intro hk
   have h1:=(hg (k+1) hk).inc (by omega)
   rw [Nat.add_sub_cancel] at h1
   by_cases he:i=k
   ·subst he; exact h1
   ·have:=ih (by omega) (by omega); omega
theorem dC7 (l:List aJ):Tab (List.replicate 256 false) (List.replicate 256 false) l 0 where
 hl:=List.length_replicate
 ul:=List.length_replicate
 hh:=by
  intro j hj
  rw [List.getD_eq_getElem?_getD,List.getElem?_replicate]
  constructor
  ·intro h; split at h <;> cases h
  ·rintro ⟨k,h,_⟩; omega
 uu:=by
  intro j hj
  rw [List.getD_eq_getElem?_getD,List.getElem?_replicate]
  constructor
  ·intro h; split at h <;> cases h
  ·rintro ⟨k,h,_⟩; omega
/-- Check returns the first error of a document. -/
theorem cY6 {F:Nat} (hF2:maxLen < F) {d:bC} (hs:∀ x∈d.f1,Sm x.f1) (hr : -9223372036854775808≤d.f0∧d.f0≤9223372036854775807):∃ e,kJ F d=some e∧pD F d=some e:=by
 have hmax:maxLen=9223372036854775807:=rfl
 have hF:4294967300≤F:=by omega
 unfold kJ pD
 by_cases hl:(d.f1.length:Int) > 64
 ·rw [decide_eq_true hl]
  exact ⟨2,rfl,rfl⟩
 rw [decide_eq_false hl]
 simp only [cond_false]
 have hl:d.f1.length≤64:=by omega
 obtain ⟨c0,hc0⟩:∃ c,c=List.replicate 256 false:=⟨_,rfl⟩
 have ht0:=dC7 d.f1
 rw [← hc0] at ht0 ⊢
 have h1:=scan hF hF2 hs hl d.f1.length 0 F 0 c0 c0 (by omega) (by omega) (fun _=>rfl) (fun h=>by omega) ht0 (fun k hk=>by omega)
 rw [Int.natCast_zero] at h1
 rcases h1 with ⟨e,a1,a2⟩ | ⟨h,u,a1,a2,ht,hg⟩
 ·rw [a1,a2]
  exact ⟨e,rfl,rfl⟩
 rw [a1,a2,cK,cK]
 simp only
 have ho:=cX3 hg
 have h2:=cQ4 hF hl ho hg d.f1.length 0 F (by omega) (by omega)
 have h3:=cP2 (F:=F) ht.hl ht.ul 256 0 F (by omega) (by omega)
 rw [Int.natCast_zero] at h2 h3
 rcases h2 with ⟨b1,k,b2,x,b3,b4⟩ | ⟨b1,b2⟩
 ·rcases h3 with ⟨d1,_⟩ | ⟨d1,d2⟩
  ·rw [b1,d1]
   exact ⟨8,rfl,rfl⟩
  ·exfalso
   have hx:=sV (hg k b2).ok x b3
   have e1:((x.toNat:Nat):Int)=x:=by omega
   have e2:=d2 x.toNat (Nat.zero_le _) (by omega) ((ht.uu _ (by omega)).2 ⟨k,b2,by rw [e1]; exact b3⟩)
   obtain ⟨k',e3,e4⟩:=(ht.hh _ (by omega)).1 e2
   exact b4 k' e3 (by rw [e4,e1])
 ·rcases h3 with ⟨d1,q,d2,d3,d4⟩ | ⟨d1,d2⟩
  ·exfalso
   obtain ⟨k,e1,e2⟩:=(ht.uu q d2).1 d3
   have e3:=b2 k (Nat.zero_le _) e1 _ e2
   rw [(ht.hh q d2).2 e3] at d4
   cases d4
  ·rw [b1,d1,cK,cK]
   obtain ⟨p,b,f1,f2,f3⟩:=find_eq (F:=F) (by omega) hl ho (x:=d.f0) hr
   have h4:=cH4 (F:=F) hl d.f1.length 0 F (by omega) (by omega)
   rw [Int.natCast_zero] at h4
   rw [f1,aN]
   cases b with
   | false =>
    rcases h4 with ⟨p',g1,g2,_⟩ | ⟨g1,_⟩
    ·exact absurd g2 (f3 rfl p' g1)
    ·rw [g1]
     exact ⟨8,rfl,rfl⟩
   | true =>
    obtain ⟨p1,p2⟩:=f2 rfl
    rcases h4 with ⟨p',g1,g2,g3⟩ | ⟨_,g2⟩
    ·have hpp:p'=p:=by
      rcases Nat.lt_trichotomy p' p with h | h | h
      ·have:=ho.inc _ _ h p1; omega
      ·exact h
      ·have:=ho.inc _ _ h g1; omega
     subst hpp
     rw [g3,Bool.not_true,cond_false,iM p1,dH]
     refine ⟨_,?_,rfl⟩
     change (bif (it d.f1 p').f1.f0 != 7 then some 14 else some 0)=_
     cases (it d.f1 p').f1.f0 != 7 <;> rfl
    ·exact absurd p2 (g2 p (Nat.zero_le _) p1)
theorem cG7 {d:bC} (hs:∀ x∈d.f1,Sm x.f1) (hr : -9223372036854775808≤d.f0∧d.f0≤9223372036854775807):dP (maxLen+401) d=some true:=by
 obtain ⟨e,h1,h2⟩:=cY6 (F:=maxLen+401) (by omega) hs hr
 have h0:pF (maxLen+401)=some true:=bN7 (maxLen+1)
 generalize maxLen+401=F at h0 h1 h2 ⊢
 unfold dP
 rw [h0,aN]
 simp only [beq_self_eq_true,Bool.and_self,cond_true]
 rw [h1,h2,aN,aN,beq_self_eq_true]
end Go.Vm.PgfG.L
