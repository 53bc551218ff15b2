/-
  REFS,PLAIN: the numbers to which an object refers.
-/
import Derived.Test.YtldmbabgcdmjcaaGreatDoorObjLh
import Derived.Test.YtldmbabgcdmjcaaGreatDoorObjLi
namespace Go.Vm.ObjG
mutual
/-- The numbers of references,in order. -/
def nums:S_Object→List Int
  | ⟨k,v,_,_,l⟩=>(bif (k == (5:Int)) then [v] else [])++numsL l
def numsL:List S_Object→List Int
  | []=>[]
  | x :: l=>nums x++numsL l
end
theorem nums_eq:∀ o,nums o=(bif (o.f0 == (5:Int)) then [o.f1] else [])++numsL o.f4
  | ⟨_,_,_,_,_⟩=>by simp only [nums]
theorem nums_len:∀ o,(nums o).length≤sz o
  | ⟨k,v,s,ks,l⟩=>by
    have h:∀ l:List S_Object,(∀ x∈l,(nums x).length≤sz x)→(numsL l).length≤szs l:=by
      intro l
      induction l with
      | nil=>intro _; simp [numsL]
      | cons x l ih =>
        intro h
        have:=ih fun y hy=>h y (by simp [hy])
        have:=h x (by simp)
        simp only [numsL,szs,List.length_append]
        omega
    have h1:=h l fun x _=>nums_len x
    simp only [nums,sz,List.length_append]
    cases (k == (5:Int)) <;> simp <;> omega
theorem szs_drop (l:List S_Object) (i:Nat) (h:i < l.length):szs (l.drop i)=sz (l.getD i ob0)+szs (l.drop (i+1)):=by
  rw [List.drop_eq_getElem_cons h,szs]
  simp [List.getD_eq_getElem?_getD,h]
theorem numsL_drop (l:List S_Object) (i:Nat) (h:i < l.length):numsL (l.drop i)=nums (l.getD i ob0)++numsL (l.drop (i+1)):=by
  rw [List.drop_eq_getElem_cons h,numsL]
  simp [List.getD_eq_getElem?_getD,h]
theorem szs_mem:∀ (l:List S_Object) (x:S_Object),x∈l→sz x≤szs l
  | y :: l,x,h=>by
    simp only [szs]
    rcases List.mem_cons.1 h with rfl | h
    · omega
    · have:=szs_mem l x h; omega
theorem szs_len:∀ (l:List S_Object),l.length≤szs l
  | []=>by simp [szs]
  | x :: l=>by
    have:=szs_len l
    have:1≤sz x:=by rw [sz_eq]; omega
    simp only [szs,List.length_cons]
    omega
theorem getD_mem (l:List S_Object) (i:Nat) (h:i < l.length):l.getD i ob0∈l:=by
  simp [List.getD_eq_getElem?_getD,h]
theorem refs_eq {F:Nat} (hF:4294967300≤F):∀ (m n:Nat) (o:S_Object) (c:List Int),sz o≤m→m < n→sz o≤5000→c.length+sz o≤100000→object_Refs_c1_fuel F n o c=some (c++nums o):=by
  intro m
  induction m with
  | zero=>intro n o c h; rw [sz_eq] at h; omega
  | succ m ih =>
    intro n o c hm hn h1 h2
    obtain ⟨n,rfl⟩:∃ k,n=k+1:=⟨n - 1,by omega⟩
    change object_Refs_c1_body F (object_Refs_c1_fuel F n) o c=_
    have hk:∀ x∈o.f4,∀ c:List Int,c.length+sz x≤100000→object_Refs_c1_fuel F n x c=some (c++nums x):=by
      intro x hx c hc
      have:=szs_mem o.f4 x hx
      have:=sz_eq o
      exact ih n x c (by omega) (by omega) (by omega) hc
    generalize object_Refs_c1_fuel F n=f at hk
    have hlen:=szs_len o.f4
    have hso:=sz_eq o
    have loop:∀ (j i q:Nat) (c:List Int),i+j=o.f4.length→j < q→c.length+szs (o.f4.drop i)≤100000→object_Refs_c1_L0 F o f q i c=some (c++numsL (o.f4.drop i)):=by
      intro j
      induction j with
      | zero =>
        intro i q c hj hq _
        obtain ⟨q,rfl⟩:∃ k,q=k+1:=⟨q - 1,by omega⟩
        obtain rfl:i=o.f4.length:=by omega
        rw [object_Refs_c1_L0,dec_end,cond_false,List.drop_length,numsL,List.append_nil]
      | succ j ihj =>
        intro i q c hj hq hc
        obtain ⟨q,rfl⟩:∃ k,q=k+1:=⟨q - 1,by omega⟩
        have hi:i < o.f4.length:=by omega
        rw [szs_drop _ _ hi] at hc
        have hnl:=nums_len (o.f4.getD i ob0)
        rw [object_Refs_c1_L0,dec_lt hi,cond_true,chk_in hi,Int.toNat_natCast]
        change (call (f (o.f4.getD i ob0) c) fun y1=>object_Refs_c1_L0 F o f q (IntKind.i64.wrap ((i:Int)+1)) y1)=_
        rw [hk _ (getD_mem _ _ hi) c (by omega),call_some,wrap_succ (by omega),ihj (i+1) q _ (by omega) (by omega) (by rw [List.length_append]; omega),numsL_drop _ _ hi,List.append_assoc]
    unfold object_Refs_c1_body
    rw [nums_eq]
    cases h5:(o.f0 == (5:Int))
    · rw [cond_false,call_some,Int.ofNat_zero.symm,loop o.f4.length 0 F c (by omega) (by omega) (by rw [List.drop_zero]; omega),call_some]
      rfl
    · rw [cond_true,chk_pos (by rw [List.length_singleton]; omega),call_some,Int.ofNat_zero.symm,loop o.f4.length 0 F _ (by omega) (by omega) (by rw [List.drop_zero,List.length_append,List.length_singleton]; omega),call_some,List.drop_zero,List.append_assoc]
      rfl
/-- What is marked. -/
def markL (l:List Int) (c:List Bool):List Bool:=l.foldl (fun c v=>c.set v.toNat true) c
theorem markL_len:∀ (l:List Int) (c:List Bool),(markL l c).length=c.length
  | [],_=>rfl
  | x :: l,c=>by
    have:=markL_len l (c.set x.toNat true)
    rwa [List.length_set] at this
theorem markL_app (l m:List Int) (c:List Bool):markL (l++m) c=markL m (markL l c):=by simp [markL]
theorem markL_get:∀ (l:List Int) (c:List Bool) (j:Nat),j < c.length→(∀ v∈l,0 < v)→((markL l c).getD j false=true↔c.getD j false=true∨(j:Int)∈l)
  | [],c,j,_,_=>by simp [markL]
  | x :: l,c,j,hj,hv=>by
    have h:=markL_get l (c.set x.toNat true) j (by rwa [List.length_set]) (fun v h=>hv v (by simp [h]))
    have hx:=hv x (by simp)
    change ((markL l (c.set x.toNat true)).getD j false=true↔_)
    rw [h,List.mem_cons]
    simp only [List.getD_eq_getElem?_getD,List.getElem?_set]
    by_cases hxj:x.toNat=j
    · rw [if_pos hxj]
      subst hxj
      rw [if_pos hj]
      have:((x.toNat:Nat):Int)=x:=by omega
      simp [this]
    · rw [if_neg hxj]
      have:(j:Int)≠x:=by omega
      simp [this]
theorem nums_range {F:Nat}:∀ {o:S_Object},OOk F o→∀ v∈nums o,0 < v∧v < 256:=by
  intro o h
  induction h with
  | @mk o h hr hk ih =>
    intro v hv
    rw [nums_eq] at hv
    rcases List.mem_append.1 hv with hv | hv
    · cases h5:(o.f0 == (5:Int))
      · rw [h5] at hv; cases hv
      · rw [h5] at hv
        simp only [cond_true,List.mem_singleton] at hv
        subst hv
        exact hr (by simpa using h5)
    · have key:∀ l:List S_Object,(∀ x∈l,∀ v∈nums x,0 < v∧v < 256)→v∈numsL l→0 < v∧v < 256:=by
        intro l
        induction l with
        | nil=>intro _ h; cases h
        | cons x l ihl =>
          intro h1 h2
          simp only [numsL,List.mem_append] at h2
          rcases h2 with h2 | h2
          · exact h1 x (by simp) v h2
          · exact ihl (fun y hy=>h1 y (by simp [hy])) h2
      exact key o.f4 ih hv
theorem numbers_eq {F:Nat} (hF:4294967300≤F):∀ (m n:Nat) (o:S_Object) (c:List Bool),OOk F o→sz o≤m→m < n→sz o≤5000→c.length=256→ref3_Numbers_fuel F n o c=some (markL (nums o) c):=by
  intro m
  induction m with
  | zero=>intro n o c _ h; rw [sz_eq] at h; omega
  | succ m ih =>
    intro n o c ho hm hn h1 h2
    obtain ⟨n,rfl⟩:∃ k,n=k+1:=⟨n - 1,by omega⟩
    change ref3_Numbers_body F (ref3_Numbers_fuel F n) o c=_
    obtain ⟨hnode,hr,hko⟩:=ho
    have hk:∀ x∈o.f4,∀ c:List Bool,c.length=256→ref3_Numbers_fuel F n x c=some (markL (nums x) c):=by
      intro x hx c hc
      have:=szs_mem o.f4 x hx
      have:=sz_eq o
      exact ih n x c (hko x hx) (by omega) (by omega) (by omega) hc
    generalize ref3_Numbers_fuel F n=f at hk
    have hlen:=szs_len o.f4
    have hso:=sz_eq o
    have loop:∀ (j i q:Nat) (c:List Bool),i+j=o.f4.length→j < q→c.length=256→ref3_Numbers_L0 F o f q i c=some (markL (numsL (o.f4.drop i)) c):=by
      intro j
      induction j with
      | zero =>
        intro i q c hj hq _
        obtain ⟨q,rfl⟩:∃ k,q=k+1:=⟨q - 1,by omega⟩
        obtain rfl:i=o.f4.length:=by omega
        rw [ref3_Numbers_L0,dec_end,cond_false,List.drop_length]
        rfl
      | succ j ihj =>
        intro i q c hj hq hc
        obtain ⟨q,rfl⟩:∃ k,q=k+1:=⟨q - 1,by omega⟩
        have hi:i < o.f4.length:=by omega
        rw [ref3_Numbers_L0,dec_lt hi,cond_true,chk_in hi,Int.toNat_natCast]
        change (call (f (o.f4.getD i ob0) c) fun y1=>ref3_Numbers_L0 F o f q (IntKind.i64.wrap ((i:Int)+1)) y1)=_
        rw [hk _ (getD_mem _ _ hi) c hc,call_some,wrap_succ (by omega),ihj (i+1) q _ (by omega) (by omega) (by rw [markL_len]; exact hc),numsL_drop _ _ hi,markL_app]
    unfold ref3_Numbers_body
    rw [nums_eq,markL_app]
    cases h5:(o.f0 == (5:Int))
    · rw [cond_false,cond_false,cond_false,lett_eq,cond_false,call_some,Int.ofNat_zero.symm,loop o.f4.length 0 F c (by omega) (by omega) h2,call_some]
      rfl
    · obtain ⟨r1,r2⟩:=hr (by simpa using h5)
      have d1:decide (o.f1 > (0:Int))=true:=decide_eq_true r1
      have d2:decide (o.f1 < (256:Int))=true:=decide_eq_true r2
      rw [cond_true,d1,cond_true,d2,lett_eq,cond_true,chk_pos ⟨⟨by omega,r2⟩,by rw [h2]; exact r2⟩,call_some,Int.ofNat_zero.symm,loop o.f4.length 0 F _ (by omega) (by omega) (by rw [List.length_set]; exact h2),call_some]
      rfl
/-- The marked places. -/
def wants (y:List Bool) (i:Nat):List Int:=((List.range' i (256 - i)).filter fun j=>y.getD j false).map fun j:Nat=>(j:Int)
theorem wants_loop {F:Nat} {y:List Bool} (hy:y.length=256):∀ (j i n:Nat) (l:List Int),i+j=256→j < n→l.length≤i→law3_ObjectRefsMatchReference_L0 F y n l i=some (l++wants y i):=by
  intro j
  induction j with
  | zero =>
    intro i n l h hn _
    obtain ⟨n,rfl⟩:∃ k,n=k+1:=⟨n - 1,by omega⟩
    obtain rfl:i=256:=by omega
    rw [law3_ObjectRefsMatchReference_L0,show decide (((256:Nat):Int) < (256:Int))=false from rfl,cond_false,show wants y 256=[] from rfl,List.append_nil]
  | succ j ih =>
    intro i n l h hn hl
    obtain ⟨n,rfl⟩:∃ k,n=k+1:=⟨n - 1,by omega⟩
    have hd:decide ((i:Int) < (256:Int))=true:=decide_eq_true (by omega)
    have hw:wants y i=(bif y.getD i false then [(i:Int)] else [])++wants y (i+1):=by
      unfold wants
      rw [show 256 - i=(256 - (i+1))+1 by omega,List.range'_succ,List.filter_cons]
      cases y.getD i false <;> rfl
    rw [law3_ObjectRefsMatchReference_L0,hd,cond_true,chk_pos ⟨⟨by omega,by omega⟩,hy⟩,Int.toNat_natCast,hw]
    cases y.getD i false
    · rw [cond_false,call_some,wrap_succ (by omega),ih (i+1) n l (by omega) (by omega) (by omega)]
      rfl
    · rw [cond_true,chk_pos (by rw [List.length_singleton]; omega),call_some,wrap_succ (by omega),ih (i+1) n _ (by omega) (by omega) (by rw [List.length_append,List.length_singleton]; omega),List.append_assoc]
      rfl
theorem wants_mem {y:List Bool} {x:Int}:x∈wants y 0↔∃ j:Nat,j < 256∧y.getD j false=true∧x=j:=by
  unfold wants
  simp only [List.mem_map,List.mem_filter,List.mem_range'_1]
  constructor
  · rintro ⟨j,⟨h1,h2⟩,rfl⟩
    exact ⟨j,by omega,h2,rfl⟩
  · rintro ⟨j,h1,h2,rfl⟩
    exact ⟨j,⟨by omega,h2⟩,rfl⟩
theorem wants_grow {y:List Bool}:(wants y 0).Pairwise (fun x y=>x < y):=by
  unfold wants
  rw [List.pairwise_map]
  refine List.Pairwise.filter _ ?_
  refine (List.pairwise_lt_range' (s:=0) (n:=256)).imp fun {a b} h=>by exact_mod_cast h
theorem equal_self {F:Nat} {l:List Int} (h1:l.length < F) (h2:l.length < 9223372036854775807):slices_Equal_int F l l=some true:=by
  have key:∀ (j i n:Nat),i+j=l.length→j < n→slices_Equal_int_L0 F l l n i=some (.go ()):=by
    intro j
    induction j with
    | zero =>
      intro i n h hn
      obtain ⟨n,rfl⟩:∃ k,n=k+1:=⟨n - 1,by omega⟩
      obtain rfl:i=l.length:=by omega
      rw [slices_Equal_int_L0,dec_end,cond_false]
    | succ j ih =>
      intro i n h hn
      obtain ⟨n,rfl⟩:∃ k,n=k+1:=⟨n - 1,by omega⟩
      have hi:i < l.length:=by omega
      rw [slices_Equal_int_L0,dec_lt hi,cond_true,chk_in hi,chk_in hi,bne_self_eq_false,cond_false,wrap_succ (by omega)]
      exact ih (i+1) n (by omega) (by omega)
  unfold slices_Equal_int
  rw [bne_self_eq_false,cond_false,Int.ofNat_zero.symm,key l.length 0 F (by omega) h1,callE_go]
/-- Refs lists the numbers of the references that the reference marks,in increasing order. -/
theorem refs_law {F:Nat} (hF2:maxLen < F) {o:S_Object} (hs:Sm o):law3_ObjectRefsMatchReference F o=some true:=by
  have hmax:maxLen=9223372036854775807:=rfl
  obtain ⟨e,s,h1,h2,h3⟩:=print_eq (by omega) hF2 hs
  have h0:law3_objectFact F=some true:=by
    obtain ⟨n,rfl⟩:∃ n,F=n+60:=⟨F - 60,by omega⟩
    exact objectFact_eq n
  have hc:object_Check F o=some e:=by
    unfold object_Check
    rw [h1,call_some]
  unfold law3_ObjectRefsMatchReference
  rw [h0,call_some,Bool.not_true,cond_false]
  unfold object_Refs
  rw [hc,call_some]
  by_cases he:e=0
  · subst he
    obtain ⟨hok,hsz⟩:=h3 rfl
    have hnl:=nums_len o
    have hr:object_Refs_c1 F o []=some ([]++nums o):=refs_eq (by omega) (sz o) F o [] (Nat.le_refl _) (by omega) (by omega) (by rw [List.length_nil]; omega)
    obtain ⟨c0,hc0⟩:∃ c,c=List.replicate 256 false:=⟨_,rfl⟩
    have hcl:c0.length=256:=by rw [hc0]; exact List.length_replicate
    have hcg:∀ j,c0.getD j false=false:=by
      intro j
      rw [hc0,List.getD_eq_getElem?_getD,List.getElem?_replicate]
      split <;> rfl
    rw [← hc0]
    have hn:ref3_Numbers F o c0=some (markL (nums o) c0):=numbers_eq (by omega) (sz o) F o _ hok (Nat.le_refl _) (by omega) (by omega) hcl
    rw [bne_self_eq_false,cond_false,hr,call_some,List.nil_append,chk_pos (by omega),chk_pos (by rw [sortI_len]; omega),call_some,h2,call_some,bne_self_eq_false,cond_false,hn,call_some]
    have hml:(markL (nums o) c0).length=256:=by rw [markL_len]; exact hcl
    rw [chk_pos hml,Int.ofNat_zero.symm,wants_loop hml 256 0 F [] (by omega) (by omega) (Nat.zero_le _),call_some]
    have heq:Lib.compact (sortI (nums o))=wants (markL (nums o) c0) 0:=by
      refine grow_eq _ _ (compactI_ok _).2 wants_grow fun x=>?_
      rw [(compactI_ok _).1,wants_mem]
      constructor
      · intro hx
        obtain ⟨r1,r2⟩:=nums_range hok x hx
        refine ⟨x.toNat,by omega,(markL_get _ _ _ (by rw [hcl]; omega) fun v hv=>(nums_range hok v hv).1).2 (.inr ?_),by omega⟩
        rwa [show ((x.toNat:Nat):Int)=x by omega]
      · rintro ⟨j,hj,hm,rfl⟩
        rcases (markL_get _ _ _ (by rw [hcl]; exact hj) fun v hv=>(nums_range hok v hv).1).1 hm with h | h
        · rw [hcg] at h; cases h
        · exact h
    have hwl:(wants (markL (nums o) c0) 0).length≤256:=by
      unfold wants
      rw [List.length_map]
      refine Nat.le_trans (List.length_filter_le _ _) ?_
      rw [List.length_range']
      omega
    rw [heq,List.nil_append]
    simp only [Int.ofNat_zero,beq_self_eq_true,Bool.and_self,cond_true]
    rw [equal_self (by omega) (by omega),call_some]
  · have hne:(e != 0)=true:=by simpa using he
    rw [hne,cond_true,call_some,h2,call_some,hne,cond_true]
    simp
end Go.Vm.ObjG
