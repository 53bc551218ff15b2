/-
  para.Hyphens: the tree of patterns in plain words.
-/
import Derived.Test.YtbnneoaaeidenaaDoorParKb
namespace Go.Vm.ParM
open Go.Vm.ParG
def lvo (σ:Sto) (i:Nat):Option (List Int):=(σ[i]?).bind (·.lv)
theorem lvOf_lvo (σ:Sto) (i:Nat):lvOf σ i=(lvo σ i).getD []:=rfl
theorem chOf_out {σ:Sto} {i:Nat} (h:σ.length≤i):chOf σ i=[]:=by
  unfold chOf
  rw [List.getElem?_eq_none h]
  rfl
theorem lvo_out {σ:Sto} {i:Nat} (h:σ.length≤i):lvo σ i=none:=by
  unfold lvo
  rw [List.getElem?_eq_none h]
  rfl
theorem setCh_view {σ:Sto} {i:Nat} (h:i < σ.length) (es:List (Int×Nat)):(∀ m,chOf (setCh σ i es) m=if m=i then es else chOf σ m)∧(∀ m,lvo (setCh σ i es) m=lvo σ m)∧(setCh σ i es).length=σ.length:=by
  unfold setCh
  rw [List.getElem?_eq_getElem h]
  refine ⟨fun m=>?_,fun m=>?_,List.length_set⟩
  · unfold chOf
    by_cases hm:m=i
    · subst hm
      simp only
      rw [List.getElem?_set_self h]
      simp
    · simp only
      rw [List.getElem?_set_ne (Ne.symm hm),if_neg hm]
  · unfold lvo
    by_cases hm:m=i
    · subst hm
      simp only
      rw [List.getElem?_set_self h,List.getElem?_eq_getElem h]
      rfl
    · simp only
      rw [List.getElem?_set_ne (Ne.symm hm)]
theorem setLv_view {σ:Sto} {i:Nat} (h:i < σ.length) (l:List Int):(∀ m,chOf (setLv σ i l) m=chOf σ m)∧(∀ m,lvo (setLv σ i l) m=if m=i then some l else lvo σ m)∧(setLv σ i l).length=σ.length:=by
  unfold setLv
  rw [List.getElem?_eq_getElem h]
  refine ⟨fun m=>?_,fun m=>?_,List.length_set⟩
  · unfold chOf
    by_cases hm:m=i
    · subst hm
      simp only
      rw [List.getElem?_set_self h,List.getElem?_eq_getElem h]
      rfl
    · simp only
      rw [List.getElem?_set_ne (Ne.symm hm)]
  · unfold lvo
    by_cases hm:m=i
    · subst hm
      simp only
      rw [List.getElem?_set_self h]
      simp
    · simp only
      rw [List.getElem?_set_ne (Ne.symm hm),if_neg hm]
theorem more_view (σ:Sto):(∀ m,chOf (σ++[Nd.mk none none]) m=chOf σ m)∧∀ m,lvo (σ++[Nd.mk none none]) m=lvo σ m:=by
  have key:∀ m,m < σ.length→(σ++[Nd.mk none none])[m]? = σ[m]? := fun m hm=>List.getElem?_append_left hm
  refine ⟨fun m=>?_,fun m=>?_⟩
  · rcases Nat.lt_trichotomy m σ.length with h | h | h
    · unfold chOf
      rw [key m h]
    · subst h
      rw [chOf_out (Nat.le_refl _)]
      unfold chOf
      simp
    · rw [chOf_out (σ:=σ) (by omega),chOf_out (by simp; omega)]
  · rcases Nat.lt_trichotomy m σ.length with h | h | h
    · unfold lvo
      rw [key m h]
    · subst h
      rw [lvo_out (Nat.le_refl _)]
      unfold lvo
      simp
    · rw [lvo_out (σ:=σ) (by omega),lvo_out (by simp; omega)]
theorem mapped_view {σ:Sto} {i:Nat} (h:i < σ.length):(∀ m,chOf (mapped σ i) m=chOf σ m)∧(∀ m,lvo (mapped σ i) m=lvo σ m)∧(mapped σ i).length=σ.length:=by
  unfold mapped
  cases hc:((σ[i]?).bind (·.ch)) with
  | some es=>exact ⟨fun _=>rfl,fun _=>rfl,rfl⟩
  | none =>
    obtain ⟨h1,h2,h3⟩:=setCh_view h []
    refine ⟨fun m=>?_,h2,h3⟩
    show chOf (setCh σ i []) m=_
    rw [h1]
    by_cases hm:m=i
    · subst hm
      rw [if_pos rfl]
      unfold chOf
      rw [hc]
      rfl
    · rw [if_neg hm]
theorem stepN_view {σ:Sto} {i:Nat} (h:i < σ.length) (c:Int):(∃ j,findCh (chOf σ i) c=some j∧(stepN σ i c).2=j∧(∀ m,chOf (stepN σ i c).1 m=chOf σ m)∧(∀ m,lvo (stepN σ i c).1 m=lvo σ m)∧(stepN σ i c).1.length=σ.length) ∨
    (findCh (chOf σ i) c=none∧(stepN σ i c).2=σ.length∧(∀ m,chOf (stepN σ i c).1 m=if m=i then chOf σ i++[(c,σ.length)] else chOf σ m)∧(∀ m,lvo (stepN σ i c).1 m=lvo σ m)∧(stepN σ i c).1.length=σ.length+1):=by
  obtain ⟨h1,h2,h3⟩:=mapped_view h
  unfold stepN
  rw [h1]
  cases hf:findCh (chOf σ i) c with
  | some j=>exact .inl ⟨j,rfl,rfl,h1,h2,h3⟩
  | none =>
    obtain ⟨m1,m2⟩:=more_view (mapped σ i)
    obtain ⟨s1,s2,s3⟩:=setCh_view (σ:=mapped σ i++[Nd.mk none none]) (i:=i) (by simp; omega) (chOf σ i++[(c,(mapped σ i).length)])
    refine .inr ⟨rfl,h3,fun m=>?_,fun m=>?_,?_⟩
    · show chOf (setCh (mapped σ i++[Nd.mk none none]) i (chOf σ i++[(c,(mapped σ i).length)])) m=_
      rw [s1,m1,h1,h3]
    · show lvo (setCh (mapped σ i++[Nd.mk none none]) i (chOf σ i++[(c,(mapped σ i).length)])) m=_
      rw [s2,m2,h2]
    · show (setCh (mapped σ i++[Nd.mk none none]) i (chOf σ i++[(c,(mapped σ i).length)])).length=_
      rw [s3,List.length_append,h3]
      rfl
theorem findCh_append (c d:Int) (n:Nat):∀ es:List (Int×Nat),findCh (es++[(c,n)]) d=match findCh es d with | some j=>some j | none=>if c=d then some n else none
  | []=>by
    simp only [List.nil_append,findCh]
  | (k,j) :: r=>by
    simp only [List.cons_append,findCh]
    by_cases hk:k=d
    · rw [if_pos hk,if_pos hk]
    · rw [if_neg hk,if_neg hk,findCh_append c d n r]
/-- The node of a word,from a node on. -/
def look (σ:Sto):Nat→List UInt8→Option Nat
  | n,[]=>some n
  | n,c :: r=>match findCh (chOf σ n) c.toNat with
    | none=>none
    | some j=>look σ j r
def val (σ:Sto):Nat→List UInt8→List Int
  | n,[]=>lvOf σ n
  | n,c :: r=>match findCh (chOf σ n) c.toNat with
    | none=>[]
    | some j=>val σ j r
theorem val_look (σ:Sto):∀ (u:List UInt8) (n:Nat),val σ n u=match look σ n u with | none=>[] | some j=>lvOf σ j
  | [],n=>rfl
  | c :: r,n=>by
    unfold val look
    cases findCh (chOf σ n) c.toNat with
    | none=>rfl
    | some j=>exact val_look σ r j
theorem look_append (σ:Sto):∀ (u v:List UInt8) (n j:Nat),look σ n u=some j→look σ n (u++v)=look σ j v
  | [],v,n,j,h=>by
    cases h
    rfl
  | c :: r,v,n,j,h=>by
    unfold look at h
    rw [List.cons_append]
    unfold look
    cases hf:findCh (chOf σ n) c.toNat with
    | none=>rw [hf] at h; cases h
    | some k =>
      rw [hf] at h
      exact (look_append σ r v k j h).trans (by cases v <;> rfl)
structure Inv (σ:Sto) (lab:Nat→List UInt8):Prop where
  pos:0 < σ.length
  root:lab 0=[]
  ch:∀ (i:Nat) (b:UInt8) (j:Nat),findCh (chOf σ i) b.toNat=some j→j < σ.length∧lab j=lab i++[b]
  row:∀ (i:Nat) (l:List Int),lvo σ i=some l→l.length=(lab i).length+1
theorem Inv.look {σ:Sto} {lab:Nat→List UInt8} (h:Inv σ lab):∀ (u:List UInt8) (n j:Nat),n < σ.length→look σ n u=some j→j < σ.length∧lab j=lab n++u
  | [],n,j,hn,hl=>by
    cases hl
    exact ⟨hn,by simp⟩
  | c :: r,n,j,hn,hl=>by
    unfold ParM.look at hl
    cases hf:findCh (chOf σ n) c.toNat with
    | none=>rw [hf] at hl; cases hl
    | some k =>
      rw [hf] at hl
      obtain ⟨h1,h2⟩:=h.ch n c k hf
      obtain ⟨h3,h4⟩:=h.look r k j h1 hl
      exact ⟨h3,by rw [h4,h2]; simp⟩
theorem Inv.start:Inv [Nd.mk none none] (fun _=>[]):=by
  refine ⟨by simp,rfl,fun i b j h=>?_,fun i l h=>?_⟩
  · have:chOf [Nd.mk none none] i=[]:=by
      rcases i with _ | i
      · rfl
      · exact chOf_out (by simp)
    rw [this] at h
    cases h
  · rcases i with _ | i
    · cases h
    · rw [lvo_out (by simp)] at h
      cases h
/-- What is kept as the tree grows. -/
structure Grew (σ σ':Sto) (lab lab':Nat→List UInt8):Prop where
  inv:Inv σ' lab'
  le:σ.length≤σ'.length
  lab:∀ m,m < σ.length→lab' m=lab m
  look:∀ u n j,n < σ.length→look σ n u=some j→ParM.look σ' n u=some j
  val:∀ u n,n < σ.length→val σ' n u=val σ n u
theorem look_same {σ σ':Sto} (h:∀ m,chOf σ' m=chOf σ m):∀ (u:List UInt8) (n:Nat),look σ' n u=look σ n u
  | [],n=>rfl
  | c :: r,n=>by
    unfold look
    rw [h]
    cases findCh (chOf σ n) c.toNat with
    | none=>rfl
    | some j=>exact look_same h r j
theorem Inv.step {σ:Sto} {lab:Nat→List UInt8} (h:Inv σ lab) {i:Nat} (hi:i < σ.length) (b:UInt8):∃ lab',Grew σ (stepN σ i b.toNat).1 lab lab'∧(stepN σ i b.toNat).2 < (stepN σ i b.toNat).1.length∧findCh (chOf (stepN σ i b.toNat).1 i) b.toNat=some (stepN σ i b.toNat).2:=by
  generalize hq:stepN σ i b.toNat=q
  obtain ⟨σ',j⟩:=q
  have hv:=stepN_view hi (b.toNat:Int)
  rw [hq] at hv
  rcases hv with ⟨j',h1,h2,h3,h4,h5⟩ | ⟨h1,h2,h3,h4,h5⟩
  · have h2':j=j':=h2
    subst h2'
    have hl:∀ m,lvOf σ' m=lvOf σ m:=fun m=>by rw [lvOf_lvo,h4,lvOf_lvo]
    refine ⟨lab,⟨⟨by rw [h5]; exact h.pos,h.root,fun m c k hk=>?_,fun m l hm=>h.row m l (by rw [← h4]; exact hm)⟩,by rw [h5]; exact Nat.le_refl _,fun _ _=>rfl,fun u n k _ hk=>by rw [look_same h3]; exact hk,fun u n _=>?_⟩,?_,?_⟩
    · have:=h.ch m c k (by rw [← h3]; exact hk)
      rw [h5]
      exact this
    · rw [val_look,val_look,look_same h3]
      cases ParM.look σ n u with
      | none=>rfl
      | some k=>exact hl k
    · show j < σ'.length
      rw [h5]
      exact (h.ch i b j h1).1
    · show findCh (chOf σ' i) b.toNat=some j
      rw [h3]
      exact h1
  · have h2':j=σ.length:=h2
    subst h2'
    have hl:∀ m,lvOf σ' m=lvOf σ m:=fun m=>by rw [lvOf_lvo,h4,lvOf_lvo]
    have hold:∀ (n:Nat) (c:UInt8) (k:Nat),findCh (chOf σ n) c.toNat=some k→findCh (chOf σ' n) c.toNat=some k:=fun n c k hk=>by
      rw [h3]
      by_cases hn:n=i
      · subst hn
        rw [if_pos rfl,findCh_append,hk]
      · rw [if_neg hn]
        exact hk
    have hnew:∀ (n:Nat) (c:UInt8) (k:Nat),findCh (chOf σ' n) c.toNat=some k→findCh (chOf σ n) c.toNat=some k∨(n=i∧c=b∧k=σ.length∧findCh (chOf σ n) c.toNat=none):=fun n c k hk=>by
      rw [h3] at hk
      by_cases hn:n=i
      · subst hn
        rw [if_pos rfl,findCh_append] at hk
        cases hf:findCh (chOf σ n) c.toNat with
        | some k'=>rw [hf] at hk; exact .inl hk
        | none =>
          rw [hf] at hk
          simp only at hk
          split at hk
          · rename_i he
            cases hk
            refine .inr ⟨rfl,?_,rfl,rfl⟩
            have:b.toNat=c.toNat:=by omega
            exact (UInt8.toNat_inj.1 this).symm
          · cases hk
      · rw [if_neg hn] at hk
        exact .inl hk
    have hout:chOf σ' σ.length=[]:=by
      rw [h3,if_neg (by omega)]
      exact chOf_out (Nat.le_refl _)
    refine ⟨fun m=>if m=σ.length then lab i++[b] else lab m,⟨⟨by rw [h5]; omega,?_,fun m c k hk=>?_,fun m l hm=>?_⟩,by rw [h5]; omega,fun m hm=>if_neg (by omega),fun u=>?_,fun u=>?_⟩,?_,?_⟩
    · show (if 0=σ.length then _ else lab 0)=[]
      rw [if_neg (by have:=h.pos; omega)]
      exact h.root
    · rw [h5]
      rcases hnew m c k hk with hk' | ⟨rfl,rfl,rfl,_⟩
      · obtain ⟨g1,g2⟩:=h.ch m c k hk'
        refine ⟨by omega,?_⟩
        have hm:m≠σ.length:=by
          rintro rfl
          rw [hout] at hk
          cases hk
        rw [if_neg (by omega),if_neg hm]
        exact g2
      · exact ⟨by omega,by rw [if_pos rfl,if_neg (by omega)]⟩
    · rw [h4] at hm
      have hm':m≠σ.length:=by
        rintro rfl
        rw [lvo_out (Nat.le_refl _)] at hm
        cases hm
      rw [if_neg hm']
      exact h.row m l hm
    · induction u with
      | nil=>exact fun n k _ hk=>hk
      | cons c r ih =>
        intro n k hn hk
        unfold ParM.look at hk ⊢
        cases hf:findCh (chOf σ n) c.toNat with
        | none=>rw [hf] at hk; cases hk
        | some k' =>
          rw [hf] at hk
          rw [hold n c k' hf]
          exact ih k' k (h.ch n c k' hf).1 hk
    · induction u with
      | nil=>exact fun n _=>hl n
      | cons c r ih =>
        intro n hn
        unfold ParM.val
        cases hf:findCh (chOf σ' n) c.toNat with
        | none =>
          cases hg:findCh (chOf σ n) c.toNat with
          | none=>rfl
          | some k=>rw [hold n c k hg] at hf; cases hf
        | some k =>
          rcases hnew n c k hf with hk' | ⟨rfl,rfl,rfl,hk'⟩
          · rw [hk']
            exact ih k (h.ch n c k hk').1
          · rw [hk']
            cases r with
            | nil =>
              show lvOf σ' σ.length=[]
              rw [hl,lvOf_lvo,lvo_out (Nat.le_refl _)]
              rfl
            | cons d r =>
              show ParM.val σ' σ.length (d :: r)=[]
              unfold ParM.val
              rw [hout]
              rfl
    · show σ.length < σ'.length
      have h5':σ'.length=σ.length+1:=h5
      omega
    · show findCh (chOf σ' i) b.toNat=some σ.length
      rw [h3,if_pos rfl,findCh_append,h1]
      exact if_pos rfl
theorem Grew.trans {σ σ' σ'':Sto} {a b c:Nat→List UInt8} (h:Grew σ σ' a b) (k:Grew σ' σ'' b c):Grew σ σ'' a c :=
  ⟨k.inv,Nat.le_trans h.le k.le,fun m hm=>by rw [k.lab m (Nat.lt_of_lt_of_le hm h.le),h.lab m hm],fun u n j hn hj=>k.look u n j (Nat.lt_of_lt_of_le hn h.le) (h.look u n j hn hj),fun u n hn=>by rw [k.val u n (Nat.lt_of_lt_of_le hn h.le),h.val u n hn]⟩
theorem Inv.addW:∀ (w:List UInt8) {σ:Sto} {lab:Nat→List UInt8},Inv σ lab→∀ {i:Nat},i < σ.length→∃ lab',Grew σ (addW σ i w).1 lab lab'∧(addW σ i w).2 < (addW σ i w).1.length∧ParM.look (addW σ i w).1 i w=some (addW σ i w).2
  | [],σ,lab,h,i,hi=>⟨lab,⟨h,Nat.le_refl _,fun _ _=>rfl,fun _ _ _ _ hk=>hk,fun _ _ _=>rfl⟩,hi,rfl⟩
  | c :: r,σ,lab,h,i,hi=>by
    obtain ⟨lab1,g1,h2,h3⟩:=h.step hi c
    obtain ⟨lab2,g2,h4,h5⟩:=Inv.addW r g1.inv h2
    have e:ParG.addW σ i (c :: r)=ParG.addW (stepN σ i c.toNat).1 (stepN σ i c.toNat).2 r:=rfl
    rw [e]
    refine ⟨lab2,g1.trans g2,h4,?_⟩
    have h6:ParM.look (stepN σ i c.toNat).1 i [c]=some (stepN σ i c.toNat).2:=by
      unfold ParM.look
      rw [h3]
      rfl
    have h7:=g2.look [c] i _ (Nat.lt_of_lt_of_le hi g1.le) h6
    rw [show c :: r=[c]++r from rfl,look_append _ [c] r i _ h7]
    exact h5
theorem getD_out {l:List Int} {k:Nat} (h:l.length≤k):l.getD k 0=0:=by
  rw [List.getD_eq_getElem?_getD,List.getElem?_eq_none h]
  rfl
theorem Inv.adds {τ:Sto} {lab:Nat→List UInt8} (h:Inv τ lab) {w:List UInt8} {n:Nat} (hw:ParM.look τ 0 w=some n) {l:List Int} (hl:l.length=w.length+1) :
    Inv (addTo τ n l) lab∧l.length≤(lvOf (rowed τ n l.length) n).length∧∀ u k,(ParM.val (addTo τ n l) 0 u).getD k 0=if u=w then Max.max ((ParM.val τ 0 u).getD k 0) (l.getD k 0) else (ParM.val τ 0 u).getD k 0:=by
  obtain ⟨hn,hlab⟩:=h.look w 0 n h.pos hw
  rw [h.root,List.nil_append] at hlab
  obtain ⟨row,hrow,hr1,hr2,hr3,hr4⟩:∃ row,lvOf (rowed τ n l.length) n=row∧row.length=l.length∧(∀ k,row.getD k 0=(lvOf τ n).getD k 0)∧(∀ m,chOf (rowed τ n l.length) m=chOf τ m)∧(rowed τ n l.length).length=τ.length∧∀ m,m≠n→lvo (rowed τ n l.length) m=lvo τ m:=by
    unfold rowed
    cases hc:((τ[n]?).bind (·.lv)) with
    | some r =>
      have hr:lvo τ n=some r:=hc
      refine ⟨r,by rw [lvOf_lvo]; show (lvo τ n).getD []=r; rw [hr]; rfl,by rw [h.row n r hr,hlab,hl],fun k=>by rw [lvOf_lvo,hr]; rfl,fun _=>rfl,rfl,fun _ _=>rfl⟩
    | none =>
      have hr:lvo τ n=none:=hc
      obtain ⟨s1,s2,s3⟩:=setLv_view hn (List.replicate l.length 0)
      refine ⟨List.replicate l.length 0,?_,List.length_replicate,fun k=>?_,s1,s3,fun m hm=>?_⟩
      · show lvOf (setLv τ n _) n=_
        rw [lvOf_lvo,s2,if_pos rfl]
        rfl
      · rw [lvOf_lvo,hr]
        rw [List.getD_eq_getElem?_getD,List.getElem?_replicate]
        split <;> rfl
      · show lvo (setLv τ n _) m=_
        rw [s2,if_neg hm]
  obtain ⟨s1,s2,s3⟩:=setLv_view (σ:=rowed τ n l.length) (i:=n) (by rw [hr4.1]; exact hn) (maxInto (lvOf (rowed τ n l.length) n) 0 l)
  have hch:∀ m,chOf (addTo τ n l) m=chOf τ m:=fun m=>by
    unfold ParG.addTo
    rw [s1,hr3]
  have hlv:∀ m,lvo (addTo τ n l) m=if m=n then some (maxInto row 0 l) else lvo τ m:=fun m=>by
    unfold ParG.addTo
    rw [s2,hrow]
    by_cases hm:m=n
    · rw [if_pos hm,if_pos hm]
    · rw [if_neg hm,if_neg hm,hr4.2 m hm]
  have hlen:(addTo τ n l).length=τ.length:=by
    unfold ParG.addTo
    rw [s3,hr4.1]
  refine ⟨⟨by rw [hlen]; exact h.pos,h.root,fun i b j hj=>?_,fun i l' hi=>?_⟩,?_,fun u k=>?_⟩
  · rw [hlen]
    exact h.ch i b j (by rw [← hch]; exact hj)
  · rw [hlv] at hi
    by_cases hm:i=n
    · rw [if_pos hm] at hi
      cases hi
      rw [maxInto_length,hr1,hm,hlab,hl]
    · rw [if_neg hm] at hi
      exact h.row i l' hi
  · rw [hrow,hr1]
    exact Nat.le_refl _
  · rw [val_look,val_look,look_same hch]
    by_cases hu:u=w
    · subst hu
      rw [hw,if_pos rfl]
      simp only
      rw [lvOf_lvo,hlv,if_pos rfl]
      show (maxInto row 0 l).getD k 0=_
      rw [maxInto_get l row 0 k (by omega),hr2]
      by_cases hk:k < l.length
      · rw [if_pos (by omega)]
        rfl
      · rw [if_neg (by omega),getD_out (l:=l) (by omega),← hr2,getD_out (l:=row) (by omega)]
        rfl
    · rw [if_neg hu]
      cases hf:ParM.look τ 0 u with
      | none=>rfl
      | some j =>
        simp only
        rw [lvOf_lvo,hlv,lvOf_lvo]
        by_cases hj:j=n
        · subst hj
          have:=(h.look u 0 j h.pos hf).2
          rw [h.root,List.nil_append,hlab] at this
          exact absurd this.symm hu
        · rw [if_neg hj]
end Go.Vm.ParM
