/-
  TICKETS,PLAIN,part 5: sorted lists of names; two sorted lists,merged.
-/
import Derived.Test.YtbfjbkndglcabaaDoorTicLh
namespace Go.Vm.TicG
abbrev Str:=List UInt8
abbrev bl (a b:Str):Prop:=Op.bytesLess a b=true
/-- Strictly increasing. -/
abbrev Inc (l:List Str):Prop:=l.Pairwise bl
theorem bl_irr {a:Str} (h:bl a a):False:=by
  unfold bl at h
  rw [bL_irr] at h
  cases h
theorem bl_asym {a b:Str} (h:bl a b) (h':bl b a):False:=bl_irr (bL_trans h h')
theorem bl_of_not {a b:Str} (h:¬ bl a b) (hne:a≠b):bl b a:=by
  have:=bL_tri a b
  have h0:Op.bytesLess a b=false:=by simpa [bl] using h
  rw [h0] at this
  simp only [Bool.not_false,Bool.true_eq,Bool.or_eq_true,beq_iff_eq] at this
  rcases this with h | h
  · exact h
  · exact absurd h.symm hne
theorem inc_unique:∀ {a b:List Str},Inc a→Inc b→(∀ x,x∈a↔x∈b)→a=b
  | [],[],_,_,_=>rfl
  | [],y :: b,_,_,h=>absurd ((h y).2 (List.mem_cons_self ..)) (by simp)
  | x :: a,[],_,_,h=>absurd ((h x).1 (List.mem_cons_self ..)) (by simp)
  | x :: a,y :: b,ha,hb,h=>by
    rw [Inc,List.pairwise_cons] at ha hb
    have hxy:x=y:=by
      rcases List.mem_cons.1 ((h x).1 (List.mem_cons_self ..)) with h1 | h1
      · exact h1
      rcases List.mem_cons.1 ((h y).2 (List.mem_cons_self ..)) with h2 | h2
      · exact h2.symm
      exact absurd (ha.1 y h2) fun h'=>bl_asym h' (hb.1 x h1)
    subst hxy
    rw [inc_unique ha.2 hb.2 fun z=>?_]
    constructor
    · intro hz
      rcases List.mem_cons.1 ((h z).1 (List.mem_cons_of_mem _ hz)) with h1 | h1
      · subst h1
        exact absurd (ha.1 z hz) fun h'=>bl_irr h'
      · exact h1
    · intro hz
      rcases List.mem_cons.1 ((h z).2 (List.mem_cons_of_mem _ hz)) with h1 | h1
      · subst h1
        exact absurd (hb.1 z hz) fun h'=>bl_irr h'
      · exact h1
/-- x,put into a sorted row whose last is first. -/
def insr:List Str→Str→List Str
  | [],x=>[x]
  | p :: r,x=>if Op.bytesLess x p then insr r x++[p] else (p :: r).reverse++[x]
theorem insr_mem:∀ (r:List Str) (x y:Str),y∈insr r x↔y=x∨y∈r
  | [],x,y=>by simp [insr]
  | p :: r,x,y=>by
    unfold insr
    split
    · rw [List.mem_append,insr_mem r x y]
      simp only [List.mem_cons,List.not_mem_nil,or_false]
      constructor
      · rintro ((h | h) | h)
        · exact .inl h
        · exact .inr (.inr h)
        · exact .inr (.inl h)
      · rintro (h | h | h)
        · exact .inl (.inl h)
        · exact .inr h
        · exact .inl (.inr h)
    · simp only [List.mem_append,List.mem_reverse,List.mem_singleton]
      exact ⟨fun h=>h.symm,fun h=>h.symm⟩
theorem insr_inc:∀ (r:List Str) (x:Str),Inc r.reverse→x ∉ r→Inc (insr r x)
  | [],x,_,_=>by simp [insr,Inc]
  | p :: r,x,h,hx=>by
    rw [List.reverse_cons,Inc,List.pairwise_append] at h
    obtain ⟨h1,_,h3⟩:=h
    have hne:x≠p:=fun e=>hx (by rw [e]; exact List.mem_cons_self ..)
    have hxr:x ∉ r:=fun e=>hx (List.mem_cons_of_mem _ e)
    unfold insr
    split
    · rename_i hlt
      rw [Inc,List.pairwise_append]
      refine ⟨insr_inc r x h1 hxr,List.pairwise_singleton _ _,fun a ha b hb=>?_⟩
      rw [List.mem_singleton.1 hb]
      rcases (insr_mem r x a).1 ha with rfl | ha
      · exact hlt
      · exact h3 a (List.mem_reverse.2 ha) p (List.mem_singleton.2 rfl)
    · rename_i hlt
      have hpx:bl p x:=bl_of_not hlt hne
      rw [List.reverse_cons,Inc,List.pairwise_append]
      refine ⟨by rw [List.pairwise_append]; exact ⟨h1,List.pairwise_singleton _ _,h3⟩,List.pairwise_singleton _ _,fun a ha b hb=>?_⟩
      rw [List.mem_singleton.1 hb]
      rcases List.mem_append.1 ha with ha | ha
      · exact bL_trans (h3 a ha p (List.mem_singleton.2 rfl)) hpx
      · rw [List.mem_singleton.1 ha]
        exact hpx
theorem insr_len:∀ (r:List Str) (x:Str),(insr r x).length=r.length+1
  | [],x=>rfl
  | p :: r,x=>by
    unfold insr
    split
    · rw [List.length_append,insr_len r x]; rfl
    · simp
/-- Sorted,one by one. -/
def isort:List Str→List Str→List Str
  | P,[]=>P
  | P,x :: xs=>isort (insr P.reverse x) xs
theorem isort_ok:∀ (xs P:List Str),Inc P→(∀ x∈xs,x ∉ P)→xs.Nodup→Inc (isort P xs)∧∀ y,y∈isort P xs↔y∈P∨y∈xs
  | [],P,h,_,_=>⟨h,fun y=>by simp [isort]⟩
  | x :: xs,P,h,hd,hn=>by
    rw [List.nodup_cons] at hn
    have h1:=insr_inc P.reverse x (by rw [List.reverse_reverse]; exact h) (by rw [List.mem_reverse]; exact hd x (List.mem_cons_self ..))
    obtain ⟨g1,g2⟩:=isort_ok xs (insr P.reverse x) h1 (fun y hy hm=>by
      rcases (insr_mem _ _ _).1 hm with rfl | hm
      · exact hn.1 hy
      · exact hd y (List.mem_cons_of_mem _ hy) (List.mem_reverse.1 hm)) hn.2
    refine ⟨g1,fun y=>?_⟩
    rw [isort,g2 y,insr_mem,List.mem_reverse,List.mem_cons]
    constructor
    · rintro ((h | h) | h)
      · exact .inr (.inl h)
      · exact .inl h
      · exact .inr (.inr h)
    · rintro (h | h | h)
      · exact .inl (.inr h)
      · exact .inl (.inl h)
      · exact .inr h
/-- Names that are not there yet are put behind. -/
def dd:List Str→List Str→List Str
  | acc,[]=>acc
  | acc,k :: ks=>if k∈acc then dd acc ks else dd (acc++[k]) ks
theorem dd_ok:∀ (ks acc:List Str),acc.Nodup→(dd acc ks).Nodup∧(∀ y,y∈dd acc ks↔y∈acc∨y∈ks)∧(dd acc ks).length≤acc.length+ks.length
  | [],acc,h=>⟨h,fun y=>by simp [dd],by simp [dd]⟩
  | k :: ks,acc,h=>by
    unfold dd
    split
    · rename_i hk
      obtain ⟨g1,g2,g3⟩:=dd_ok ks acc h
      refine ⟨g1,fun y=>?_,by simp only [List.length_cons]; omega⟩
      rw [g2 y,List.mem_cons]
      constructor
      · rintro (h | h)
        · exact .inl h
        · exact .inr (.inr h)
      · rintro (h | rfl | h)
        · exact .inl h
        · exact .inl hk
        · exact .inr h
    · rename_i hk
      obtain ⟨g1,g2,g3⟩:=dd_ok ks (acc++[k]) (by
        rw [List.nodup_append]
        exact ⟨h,by simp,fun a ha b hb=>by rw [List.mem_singleton.1 hb]; intro e; exact hk (e ▸ ha)⟩)
      refine ⟨g1,fun y=>?_,by simp only [List.length_cons,List.length_append,List.length_nil] at g3 ⊢; omega⟩
      rw [g2 y,List.mem_append,List.mem_singleton,List.mem_cons]
      constructor
      · rintro ((h | h) | h)
        · exact .inl h
        · exact .inr (.inl h)
        · exact .inr (.inr h)
      · rintro (h | h | h)
        · exact .inl (.inl h)
        · exact .inl (.inr h)
        · exact .inr h
theorem inc_nodup {l:List Str} (h:Inc l):l.Nodup:=h.imp fun hab=>fun e=>by subst e; exact bl_irr hab
/-- What is found where a record and a dictionary are held side by side. -/
inductive Ev where
  | miss (i:Nat)
  | extra (j:Nat)
  | both (i j:Nat)
abbrev tf0:S_TicketField:=S_TicketField.mk [] 0 0 0 [] [] false (S_Object.mk 0 0 [] [] [])
section
variable (K:List S_TicketField) (ks:List Str)
def Ev.name:Ev→Str
  | .miss i=>(K.getD i tf0).f0
  | .extra j=>ks.getD j []
  | .both i _=>(K.getD i tf0).f0
/-- From place i of the fields and place j of the keys. -/
def mrg:Nat→Nat→Nat→List Ev
  | 0,_,_=>[]
  | n+1,i,j =>
    if i < K.length∨j < ks.length then
      if j=ks.length∨(i < K.length∧bl (K.getD i tf0).f0 (ks.getD j [])) then .miss i :: mrg n (i+1) j
      else if i=K.length∨bl (ks.getD j []) (K.getD i tf0).f0 then .extra j :: mrg n i (j+1)
      else .both i j :: mrg n (i+1) (j+1)
    else []
variable {K ks}
theorem incK {K:List S_TicketField} (h:Inc (K.map (·.f0))) {i j:Nat} (hij:i < j) (hj:j < K.length):bl (K.getD i tf0).f0 (K.getD j tf0).f0:=by
  have:=List.pairwise_iff_getElem.1 h i j (by simp; omega) (by simpa using hj) hij
  simp only [List.getElem_map] at this
  rw [List.getD_eq_getElem?_getD,List.getD_eq_getElem?_getD,List.getElem?_eq_getElem hj,List.getElem?_eq_getElem (show i < K.length by omega)]
  exact this
theorem incS {ks:List Str} (h:Inc ks) {i j:Nat} (hij:i < j) (hj:j < ks.length):bl (ks.getD i []) (ks.getD j []):=by
  have:=List.pairwise_iff_getElem.1 h i j (by omega) hj hij
  rw [List.getD_eq_getElem?_getD,List.getD_eq_getElem?_getD,List.getElem?_eq_getElem hj,List.getElem?_eq_getElem (show i < ks.length by omega)]
  exact this
/-- What holds of each event. -/
def EvOk (K:List S_TicketField) (ks:List Str) (a b:Nat):Ev→Prop
  | .miss i=>a≤i∧i < K.length∧∀ j,j < ks.length→ks.getD j []≠(K.getD i tf0).f0
  | .extra j=>b≤j∧j < ks.length∧∀ i,i < K.length→(K.getD i tf0).f0≠ks.getD j []
  | .both i j=>a≤i∧b≤j∧i < K.length∧j < ks.length∧ks.getD j []=(K.getD i tf0).f0
theorem EvOk.mono {a a' b b':Nat} (ha:a≤a') (hb:b≤b') {e:Ev} (h:EvOk K ks a' b' e):EvOk K ks a b e:=by
  cases e
  · exact ⟨by have:=h.1; omega,h.2⟩
  · exact ⟨by have:=h.1; omega,h.2⟩
  · exact ⟨by have:=h.1; omega,by have:=h.2.1; omega,h.2.2⟩
/-- Behind (i,j) every name is greater than s. -/
def Beyond (K:List S_TicketField) (ks:List Str) (i j:Nat) (s:Str):Prop:=(∀ x,i≤x→x < K.length→bl s (K.getD x tf0).f0)∧∀ x,j≤x→x < ks.length→bl s (ks.getD x [])
theorem mrg_ok (hK:Inc (K.map (·.f0))) (hks:Inc ks):∀ (n i j:Nat),i≤K.length→j≤ks.length→K.length - i+(ks.length - j) < n →
    (∀ x y,x < i→j≤y→y < ks.length→bl (K.getD x tf0).f0 (ks.getD y []))→(∀ x y,x < j→i≤y→y < K.length→bl (ks.getD x []) (K.getD y tf0).f0) →
    Inc ((mrg K ks n i j).map (Ev.name K ks))∧(∀ e∈mrg K ks n i j,EvOk K ks i j e)∧(∀ x,i≤x→x < K.length→(K.getD x tf0).f0∈(mrg K ks n i j).map (Ev.name K ks))∧(∀ y,j≤y→y < ks.length→ks.getD y []∈(mrg K ks n i j).map (Ev.name K ks)) ∧
      ∀ s,Beyond K ks i j s→∀ e∈mrg K ks n i j,bl s (e.name K ks):=by
  intro n
  induction n with
  | zero=>intro i j _ _ h; omega
  | succ n ih =>
    intro i j hi hj hn hA hB
    unfold mrg
    by_cases h0:i < K.length∨j < ks.length
    case neg =>
      rw [if_neg h0]
      exact ⟨List.Pairwise.nil,fun e he=>(by cases he),fun x h1 h2=>(by omega),fun y h1 h2=>(by omega),fun s _ e he=>(by cases he)⟩
    rw [if_pos h0]
    by_cases h1:j=ks.length∨(i < K.length∧bl (K.getD i tf0).f0 (ks.getD j []))
    · rw [if_pos h1]
      have hiK:i < K.length:=by omega
      have hlt:∀ y,j≤y→y < ks.length→bl (K.getD i tf0).f0 (ks.getD y []):=by
        intro y hy1 hy2
        rcases h1 with h1 | ⟨_,h1⟩
        · omega
        · by_cases hyj:y=j
          · rw [hyj]; exact h1
          · exact bL_trans h1 (incS hks (by omega) hy2)
      obtain ⟨g1,g2,g3,g4,g5⟩:=ih (i+1) j (by omega) hj (by omega) (fun x y hx hy1 hy2=>by
        by_cases hxi:x=i
        · rw [hxi]; exact hlt y hy1 hy2
        · exact hA x y (by omega) hy1 hy2) (fun x y hx hy1 hy2=>hB x y hx (by omega) hy2)
      have hbey:Beyond K ks (i+1) j (K.getD i tf0).f0:=⟨fun x hx1 hx2=>incK hK (by omega) hx2,hlt⟩
      refine ⟨?_,?_,fun x hx1 hx2=>?_,fun y hy1 hy2=>?_,fun s hs e he=>?_⟩
      · rw [List.map_cons,Inc,List.pairwise_cons]
        refine ⟨fun a ha=>?_,g1⟩
        obtain ⟨e,he,rfl⟩:=List.mem_map.1 ha
        exact g5 _ hbey e he
      · intro e he
        rcases List.mem_cons.1 he with rfl | he
        · refine ⟨Nat.le_refl _,hiK,fun y hy e=>?_⟩
          by_cases hyj:j≤y
          · have:=hlt y hyj hy
            rw [e] at this
            exact bl_irr this
          · have:=hB y i (by omega) (Nat.le_refl _) hiK
            rw [e] at this
            exact bl_irr this
        · exact (g2 e he).mono (by omega) (Nat.le_refl _)
      · by_cases hxi:x=i
        · rw [hxi,List.map_cons]; exact List.mem_cons_self ..
        · rw [List.map_cons]; exact List.mem_cons_of_mem _ (g3 x (by omega) hx2)
      · rw [List.map_cons]; exact List.mem_cons_of_mem _ (g4 y hy1 hy2)
      · rcases List.mem_cons.1 he with rfl | he
        · exact hs.1 i (Nat.le_refl _) hiK
        · exact g5 s ⟨fun x hx1 hx2=>hs.1 x (by omega) hx2,hs.2⟩ e he
    rw [if_neg h1]
    have hjk:j < ks.length:=by omega
    by_cases h2:i=K.length∨bl (ks.getD j []) (K.getD i tf0).f0
    · rw [if_pos h2]
      have hlt:∀ y,i≤y→y < K.length→bl (ks.getD j []) (K.getD y tf0).f0:=by
        intro y hy1 hy2
        rcases h2 with h2 | h2
        · omega
        · by_cases hyi:y=i
          · rw [hyi]; exact h2
          · exact bL_trans h2 (incK hK (by omega) hy2)
      obtain ⟨g1,g2,g3,g4,g5⟩:=ih i (j+1) hi (by omega) (by omega) (fun x y hx hy1 hy2=>hA x y hx (by omega) hy2) (fun x y hx hy1 hy2=>by
        by_cases hxj:x=j
        · rw [hxj]; exact hlt y hy1 hy2
        · exact hB x y (by omega) hy1 hy2)
      have hbey:Beyond K ks i (j+1) (ks.getD j []):=⟨hlt,fun x hx1 hx2=>incS hks (by omega) hx2⟩
      refine ⟨?_,?_,fun x hx1 hx2=>?_,fun y hy1 hy2=>?_,fun s hs e he=>?_⟩
      · rw [List.map_cons,Inc,List.pairwise_cons]
        refine ⟨fun a ha=>?_,g1⟩
        obtain ⟨e,he,rfl⟩:=List.mem_map.1 ha
        exact g5 _ hbey e he
      · intro e he
        rcases List.mem_cons.1 he with rfl | he
        · refine ⟨Nat.le_refl _,hjk,fun y hy e=>?_⟩
          by_cases hyi:i≤y
          · have:=hlt y hyi hy
            rw [e] at this
            exact bl_irr this
          · have:=hA y j (by omega) (Nat.le_refl _) hjk
            rw [e] at this
            exact bl_irr this
        · exact (g2 e he).mono (Nat.le_refl _) (by omega)
      · rw [List.map_cons]; exact List.mem_cons_of_mem _ (g3 x hx1 hx2)
      · by_cases hyj:y=j
        · rw [hyj,List.map_cons]; exact List.mem_cons_self ..
        · rw [List.map_cons]; exact List.mem_cons_of_mem _ (g4 y (by omega) hy2)
      · rcases List.mem_cons.1 he with rfl | he
        · exact hs.2 j (Nat.le_refl _) hjk
        · exact g5 s ⟨hs.1,fun x hx1 hx2=>hs.2 x (by omega) hx2⟩ e he
    · rw [if_neg h2]
      have hiK:i < K.length:=by omega
      have heq:ks.getD j []=(K.getD i tf0).f0:=by
        by_cases hne:(K.getD i tf0).f0=ks.getD j []
        · exact hne.symm
        · exact absurd (.inr (bl_of_not (fun h=>h1 (.inr ⟨hiK,h⟩)) hne)) h2
      obtain ⟨g1,g2,g3,g4,g5⟩:=ih (i+1) (j+1) (by omega) (by omega) (by omega) (fun x y hx hy1 hy2=>by
        by_cases hxi:x=i
        · rw [hxi,← heq]; exact incS hks (by omega) hy2
        · exact hA x y (by omega) (by omega) hy2) (fun x y hx hy1 hy2=>by
        by_cases hxj:x=j
        · rw [hxj,heq]; exact incK hK (by omega) hy2
        · exact hB x y (by omega) (by omega) hy2)
      have hbey:Beyond K ks (i+1) (j+1) (K.getD i tf0).f0:=⟨fun x hx1 hx2=>incK hK (by omega) hx2,fun x hx1 hx2=>by rw [← heq]; exact incS hks (by omega) hx2⟩
      refine ⟨?_,?_,fun x hx1 hx2=>?_,fun y hy1 hy2=>?_,fun s hs e he=>?_⟩
      · rw [List.map_cons,Inc,List.pairwise_cons]
        refine ⟨fun a ha=>?_,g1⟩
        obtain ⟨e,he,rfl⟩:=List.mem_map.1 ha
        exact g5 _ hbey e he
      · intro e he
        rcases List.mem_cons.1 he with rfl | he
        · exact ⟨Nat.le_refl _,Nat.le_refl _,hiK,hjk,heq⟩
        · exact (g2 e he).mono (by omega) (by omega)
      · by_cases hxi:x=i
        · rw [hxi,List.map_cons]; exact List.mem_cons_self ..
        · rw [List.map_cons]; exact List.mem_cons_of_mem _ (g3 x (by omega) hx2)
      · by_cases hyj:y=j
        · rw [hyj,List.map_cons,heq]; exact List.mem_cons_self ..
        · rw [List.map_cons]; exact List.mem_cons_of_mem _ (g4 y (by omega) hy2)
      · rcases List.mem_cons.1 he with rfl | he
        · exact hs.1 i (Nat.le_refl _) hiK
        · exact g5 s ⟨fun x hx1 hx2=>hs.1 x (by omega) hx2,fun x hx1 hx2=>hs.2 x (by omega) hx2⟩ e he
end
/-- The sorted names are the events' names. -/
theorem names_eq {K:List S_TicketField} {ks:List Str} (hK:Inc (K.map (·.f0))) (hks:Inc ks) {n:Nat} (hn:K.length+ks.length < n) :
    isort [] (dd (K.map (·.f0)) ks)=(mrg K ks n 0 0).map (Ev.name K ks):=by
  obtain ⟨g1,g2,g3,g4,g5⟩:=mrg_ok hK hks n 0 0 (by omega) (by omega) (by omega) (fun x y hx=>by omega) (fun x y hx=>by omega)
  obtain ⟨d1,d2,d3⟩:=dd_ok ks (K.map (·.f0)) (inc_nodup hK)
  obtain ⟨s1,s2⟩:=isort_ok (dd (K.map (·.f0)) ks) [] List.Pairwise.nil (fun x _=>by simp) d1
  refine inc_unique s1 g1 fun x=>?_
  rw [s2 x,d2 x]
  constructor
  · rintro (h | h | h)
    · cases h
    · obtain ⟨f,hf,rfl⟩:=List.mem_map.1 h
      obtain ⟨i,hi,rfl⟩:=List.getElem_of_mem hf
      have:=g3 i (by omega) hi
      simpa [List.getD_eq_getElem?_getD,hi] using this
    · obtain ⟨j,hj,rfl⟩:=List.getElem_of_mem h
      have:=g4 j (by omega) hj
      simpa [List.getD_eq_getElem?_getD,hj] using this
  · intro h
    obtain ⟨e,he,rfl⟩:=List.mem_map.1 h
    have hok:=g2 e he
    have memK:∀ i,i < K.length→(K.getD i tf0).f0∈K.map (·.f0):=by
      intro i hi
      refine List.mem_map.2 ⟨K.getD i tf0,?_,rfl⟩
      rw [List.getD_eq_getElem?_getD,List.getElem?_eq_getElem hi]
      exact List.getElem_mem hi
    cases e with
    | miss i=>exact .inr (.inl (memK i hok.2.1))
    | extra j =>
      refine .inr (.inr ?_)
      show ks.getD j []∈ks
      rw [List.getD_eq_getElem?_getD,List.getElem?_eq_getElem hok.2.1]
      exact List.getElem_mem hok.2.1
    | both i j=>exact .inr (.inl (memK i hok.2.2.1))
end Go.Vm.TicG
