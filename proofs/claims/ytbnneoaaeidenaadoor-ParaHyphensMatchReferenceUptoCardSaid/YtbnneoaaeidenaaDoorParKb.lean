/-
  para.Hyphens: a pattern's word and levels; maxima.
-/
import Derived.Test.YtbnneoaaeidenaaDoorParKa
namespace Go.Vm.ParM
def patOf (p:List UInt8):List UInt8×List Int×Bool :=
  match readP p.length 0 p [] [0] with
  | none=>([],[],false)
  | some (W,L)=>(W,L,bif dots W then decide ((p.length:Int)≤16) else false)
theorem dots_trim (W:List UInt8):(!(Lib.trimS W [46] == []))=dots W:=by
  rw [trim_beq,List.not_all_eq_any_not]
  unfold dots
  congr 1
  funext c
  simp
  rfl
theorem readP_fit (len:Nat):∀ (r:List UInt8) (i:Nat) (W W':List UInt8) (L L':List Int),readP len i r W L=some (W',L')→L.length=W.length+1→(∀ z∈L,0≤z)→L'.length=W'.length+1∧W'.length≤W.length+r.length∧∀ z∈L',0≤z
  | [],i,W,W',L,L',h,hL,hz=>by
    simp only [readP,Option.some.injEq,Prod.mk.injEq] at h
    obtain ⟨rfl,rfl⟩:=h
    exact ⟨hL,by simp,hz⟩
  | c :: r,i,W,W',L,L',h,hL,hz=>by
    rw [readP] at h
    cases hs:stepP len i c W L with
    | none=>rw [hs] at h; cases h
    | some q =>
      obtain ⟨W1,L1⟩:=q
      rw [hs] at h
      have key:L1.length=W1.length+1∧W1.length≤W.length+1∧∀ z∈L1,0≤z:=by
        unfold stepP at hs
        cases hd:dig c with
        | true =>
          rw [hd,cond_true] at hs
          cases hq:(L.getD (L.length - 1) 0 != 0) with
          | true=>rw [hq] at hs; cases hs
          | false =>
            rw [hq] at hs
            simp only [cond_false,Option.some.injEq,Prod.mk.injEq] at hs
            obtain ⟨rfl,rfl⟩:=hs
            refine ⟨by rw [List.length_set]; exact hL,by omega,fun z hz'=>?_⟩
            rcases List.mem_or_eq_of_mem_set hz' with h1 | h1
            · exact hz z h1
            · simp only [dig,Bool.and_eq_true,decide_eq_true_eq] at hd
              omega
        | false =>
          rw [hd,cond_false] at hs
          cases ho:odd1 W i len c with
          | true=>rw [ho] at hs; cases hs
          | false =>
            rw [ho] at hs
            simp only [cond_false,Option.some.injEq,Prod.mk.injEq] at hs
            obtain ⟨rfl,rfl⟩:=hs
            refine ⟨by simp [hL],by simp,fun z hz'=>?_⟩
            rcases List.mem_append.1 hz' with h1 | h1
            · exact hz z h1
            · simp at h1
              omega
      obtain ⟨h1,h2,h3⟩:=readP_fit len r (i+1) W1 W' L1 L' h key.1 key.2.2
      exact ⟨h1,by simp only [List.length_cons]; omega,h3⟩
theorem patOf_fit (p:List UInt8) (h:(patOf p).2.2=true):(patOf p).2.1.length=(patOf p).1.length+1∧(patOf p).1.length≤p.length∧(∀ z∈(patOf p).2.1,0≤z)∧(patOf p).1≠[]:=by
  unfold patOf at h ⊢
  cases hr:readP p.length 0 p [] [0] with
  | none=>rw [hr] at h; cases h
  | some q =>
    obtain ⟨W,L⟩:=q
    rw [hr] at h
    obtain ⟨h1,h2,h3⟩:=readP_fit p.length p 0 [] W [0] L hr rfl (by simp)
    refine ⟨h1,by simpa using h2,h3,fun hw=>?_⟩
    have hw':W=[]:=hw
    subst hw'
    cases h
theorem pattern_eq (F:Nat) (p:List UInt8) (hp:p.length≤2097152) (hF:p.length < F):ParG.para_pattern F p=some (patOf p)∧ref3_bare F p=some (patOf p):=by
  have h1:=P0 F p hp p.length 0 F [] [0] (by omega) hF rfl (by simp)
  have h2:=B0 F p hp p.length 0 F [] [0] (by omega) hF rfl (by simp)
  rw [List.drop_zero,show ((0:Nat):Int)=0 from rfl] at h1 h2
  have h1':ParG.para_pattern_L0 F p F [] [0] false 0=_:=h1
  have h2':ref3_bare_L0 F p F [] false [0] 0=_:=h2
  unfold ParG.para_pattern ref3_bare patOf
  rw [h1',h2']
  cases hr:readP p.length 0 p [] [0] with
  | none=>exact ⟨rfl,rfl⟩
  | some q =>
    obtain ⟨W,L⟩:=q
    obtain ⟨_,g2,_⟩:=readP_fit p.length p 0 [] W [0] L hr rfl (by simp)
    simp only [callE_go,lett_eq]
    have hW:W.length≤9223372036854775807:=by simp at g2; omega
    rw [chk_pos hW,chk_pos hW,dots_trim]
    constructor <;> first | rfl | trivial
/-- v is the greatest of A,or 0 where A has nothing above it. -/
def Mx (A:Int→Prop) (v:Int):Prop:=(v=0∨A v)∧0≤v∧∀ a,A a→a≤v
theorem Mx.uniq {A:Int→Prop} {v w:Int} (h:Mx A v) (k:Mx A w):v=w:=by
  obtain ⟨h1,h2,h3⟩:=h
  obtain ⟨k1,k2,k3⟩:=k
  rcases h1 with h1 | h1 <;> rcases k1 with k1 | k1
  · omega
  · have:=h3 _ k1
    omega
  · have:=k3 _ h1
    omega
  · have a:=h3 _ k1
    have b:=k3 _ h1
    omega
theorem Mx.congr {A B:Int→Prop} {v:Int} (h:Mx A v) (hAB:∀ a,A a↔B a):Mx B v :=
  ⟨h.1.imp id fun h=>(hAB v).1 h,h.2.1,fun a ha=>h.2.2 a ((hAB a).2 ha)⟩
theorem Mx.max {A B:Int→Prop} {v w:Int} (h:Mx A v) (k:Mx B w):Mx (fun a=>A a∨B a) (Max.max v w):=by
  obtain ⟨h1,h2,h3⟩:=h
  obtain ⟨k1,k2,k3⟩:=k
  refine ⟨?_,by omega,fun a ha=>?_⟩
  · rcases Int.le_total v w with hl | hl
    · rw [Int.max_eq_right hl]
      exact k1.imp id .inr
    · rw [Int.max_eq_left hl]
      exact h1.imp id .inl
  · rcases ha with ha | ha
    · have:=h3 a ha
      omega
    · have:=k3 a ha
      omega
theorem Mx.nil:Mx (fun _=>False) 0:=⟨.inl rfl,Int.le_refl _,fun _ h=>h.elim⟩
theorem Mx.one {z:Int} (h:0≤z):Mx (fun a=>a=z) z:=⟨.inr rfl,h,fun a ha=>Int.le_of_eq ha⟩
theorem maxInto_length:∀ (r l:List Int) (j:Nat),(ParG.maxInto l j r).length=l.length
  | [],l,j=>rfl
  | x :: r,l,j=>by rw [ParG.maxInto,maxInto_length r,List.length_set]
theorem maxInto_get:∀ (r l:List Int) (j k:Nat),j+r.length≤l.length→(ParG.maxInto l j r).getD k 0=if j≤k∧k < j+r.length then Max.max (l.getD k 0) (r.getD (k - j) 0) else l.getD k 0
  | [],l,j,k,_=>by
    rw [ParG.maxInto,if_neg (by first | (simp; done) | (simp; omega))]
  | x :: r,l,j,k,h=>by
    simp only [List.length_cons] at h ⊢
    rw [ParG.maxInto,maxInto_get r _ (j+1) k (by rw [List.length_set]; omega)]
    by_cases hk:k=j
    · subst hk
      rw [if_neg (by omega),if_pos (by omega),List.getD_eq_getElem?_getD,List.getElem?_set_self (by omega),Nat.sub_self]
      simp [List.getD_eq_getElem?_getD]
    · have e:(l.set j (Max.max (l[j]?.getD 0) x)).getD k 0=l.getD k 0:=by
        rw [List.getD_eq_getElem?_getD,List.getElem?_set_ne (Ne.symm hk),List.getD_eq_getElem?_getD]
      rw [e]
      by_cases hc:j+1≤k∧k < j+1+r.length
      · rw [if_pos hc,if_pos (by omega)]
        have:(x :: r).getD (k - j) 0=r.getD (k - (j+1)) 0:=by
          obtain ⟨q,hq⟩:∃ q,k - j=q+1:=⟨k - j - 1,by omega⟩
          rw [hq,show k - (j+1)=q by omega]
          rfl
        rw [this]
      · rw [if_neg hc,if_neg (by omega)]
end Go.Vm.ParM
