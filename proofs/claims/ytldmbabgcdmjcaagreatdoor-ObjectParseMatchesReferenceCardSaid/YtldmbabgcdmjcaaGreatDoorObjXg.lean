/-
  token,reading: plain law 7: texts in hexadecimal digits.
-/
import Derived.Test.YtldmbabgcdmjcaaGreatDoorObjXf
namespace Go.Vm.ObjM.Lx
def pairs:List Nat→List UInt8
 | a :: b :: r=>UInt8.ofNat (a * 16+b) :: pairs r
 | [_]=>[]
 | []=>[]
theorem aG2:∀ (ns:List Nat),(pairs ns).length≤ns.length
 | []=>by simp [pairs]
 | [_]=>by simp [pairs]
 | a :: b :: r=>by
  have:=aG2 r
  simp [pairs]; omega
theorem zA:∀ (ns:List Nat) (v:Nat),ns.length % 2=0→pairs (ns++[v])=pairs ns
 | [],_,_=>rfl
 | [_],_,h=>by simp at h
 | a :: b :: r,v,h=>by
  have:=zA r v (by simp at h; omega)
  simp only [List.cons_append,pairs,this]
theorem aY1:∀ (ns:List Nat) (a b:Nat),ns.length % 2=0→pairs (ns++[a]++[b])=pairs ns++[UInt8.ofNat (a * 16+b)]
 | [],_,_,_=>rfl
 | [_],_,_,h=>by simp at h
 | x :: y :: r,a,b,h=>by
  have:=aY1 r a b (by simp at h; omega)
  simp only [List.cons_append,pairs,this]
def aG8:List UInt8→List Nat→Sum (List Nat×List UInt8) Int
 | [],_=>.inr 12
 | c :: t,ns=>bif white c then aG8 t ns else
  bif (bif (c.toNat:Int) == 62 then decide (ns.length % 2=0) else false) then .inl (ns,t) else
  match qB c with
  | some v=>aG8 t (ns++[v])
  | none=>.inr 5
def bB0:Sum (List Nat×List UInt8) Int→Sum (List UInt8×List UInt8) Int
 | .inl (ns,t)=>bif decide (1024 < (pairs ns).length) then .inr 2 else .inl (pairs ns,t)
 | .inr e=>.inr e
theorem cI1 (n:Nat):(((n:Nat):Int).tmod 2 == 0)=decide (n % 2=0):=by
 rw [Int.tmod_eq_emod_of_nonneg (by omega),Bool.eq_iff_iff,beq_iff_eq,decide_eq_true_eq]; omega
theorem cY6 {F:Nat} (s:List UInt8) (hs:s.length≤10000):∀ (m i n:Nat) (ns:List Nat) (v3:Int),i+m=s.length→m < n→ns.length+m≤50000 →
  (ns.length % 2=1→∃ ns' a,ns=ns'++[a]∧v3=((a:Nat):Int)∧a < 16) →
  ∃ x,dA (dL F s n (i:Int) (pairs ns) v3 (ns.length:Int)) (fun e=>some e) (fun v6=>some ([],(12:Int),s,v6))=some x∧(match bB0 (aG8 (s.drop i) ns) with
   | .inl (w,r)=>x=(w,0,s,((lW s r:Nat):Int))
   | .inr e=>e≠0∧x.2.1=e∧x.2.2.1=s):=by
 intro m
 induction m with
 | zero =>
  intro i n ns v3 hi hn _ _
  obtain ⟨n,rfl⟩:∃ q,n=q+1:=⟨n - 1,by omega⟩
  obtain rfl:i=s.length:=by omega
  rw [dL,fG,cond_false,List.drop_length,aW]
  exact ⟨_,rfl,by decide,rfl,rfl⟩
 | succ m ih =>
  intro i n ns v3 hi hn hl hodd
  obtain ⟨n,rfl⟩:∃ q,n=q+1:=⟨n - 1,by omega⟩
  have hlt:i < s.length:=by omega
  have hp1:=pR (s:=s) (i:=i+1) (by omega)
  have hpl:=aG2 ns
  rw [dL,dec_lt hlt,cond_true,eD hlt,bM,bS (by omega),bO4,aA,bX hlt,aG8]
  generalize s.getD i 0=c at *
  cases hw:white c
  ·simp only [cond_false,aY,cI1]
   cases hz:(bif (c.toNat:Int) == 62 then decide (ns.length % 2=0) else false)
   ·simp only [cond_false]
    rw [cW7,aA]
    cases hv:qB c with
    | none=>exact ⟨_,rfl,by decide,rfl,rfl⟩
    | some v =>
     have hv16:=qW hv
     simp only [Bool.not_true,cond_false]
     rw [bS (by omega),cI1]
     by_cases he:ns.length % 2=0
     ·rw [decide_eq_false (by omega),cond_false,aA]
      have h:=ih (i+1) n (ns++[v]) (v:Int) (by omega) (by omega) (by simp; omega) (fun _=>⟨ns,v,rfl,rfl,hv16⟩)
      rw [zA ns v he,List.length_append,List.length_singleton] at h
      exact h
     ·obtain ⟨ns',a,rfl,rfl,ha⟩:=hodd (by omega)
      have he':ns'.length % 2=0:=by simp at he; omega
      rw [decide_eq_true (by omega),cond_true,bK3 a ha v hv16,zA ns' a he',yT F (by omega) (by rw [zA ns' a he'] at hpl; omega),aA,aA]
      have h:=ih (i+1) n (ns'++[a]++[v]) (v:Int) (by omega) (by omega) (by simp at hl ⊢; omega) (fun hq=>by simp at hq he; omega)
      rw [aY1 ns' a v he',List.length_append,List.length_singleton] at h
      exact h
   ·simp only [cond_true]
    rw [aL (by omega)]
    unfold eX bB0
    simp only
    by_cases h1024:1024 < (pairs ns).length
    ·rw [decide_eq_true (show ((pairs ns).length:Int) > 1024 by omega),decide_eq_true h1024]
     exact ⟨_,rfl,by decide,rfl,rfl⟩
    ·rw [decide_eq_false (show ¬ ((pairs ns).length:Int) > 1024 by omega),decide_eq_false h1024]
     refine ⟨_,rfl,?_⟩
     simp only [cond_false]
     rw [hp1]
  ·simp only [cond_true]
   exact ih (i+1) n ns v3 (by omega) (by omega) (by omega) hodd
theorem cX1 {F:Nat} {s:List UInt8} (hs:s.length≤10000) (hF:20000≤F) {i:Nat} (hi:i≤s.length) :
  ∃ x,jR F s (i:Int)=some x∧(match bB0 (aG8 (s.drop i) []) with
   | .inl (w,r)=>x=(w,0,s,((lW s r:Nat):Int))
   | .inr e=>e≠0∧x.2.1=e∧x.2.2.1=s) :=
 cY6 s hs (s.length - i) i F [] 0 (by omega) (by omega) (by simp; omega) (fun h=>by simp at h)
/-! ## The reference -/
def ints (ns:List Nat):List Int:=ns.map (fun (a:Nat)=>(a:Int))
theorem aO8 (ns:List Nat):(ints ns).length=ns.length:=List.length_map _
theorem aY2 {ns:List Nat} {i:Nat} (h:i < ns.length):(ints ns).getD i 0=((ns.getD i 0:Nat):Int):=by
 rw [List.getD_eq_getElem?_getD,List.getD_eq_getElem?_getD]
 simp [ints,h]
theorem bK6 {ns:List Nat} {i:Nat} (hi:i < ns.length):ns.drop i=ns.getD i 0 :: ns.drop (i+1):=by
 rw [List.getD_eq_getElem?_getD,List.getElem?_eq_getElem hi]
 exact List.drop_eq_getElem_cons hi
theorem bH8 (F:Nat) (ns:List Nat) (hb:∀ v∈ns,v < 16) (he:ns.length % 2=0) (hl:ns.length≤50000):∀ (m i n:Nat) (acc:List UInt8),i+2 * m=ns.length→m < n→acc.length+m≤100000 →
  iT F (ints ns) n acc (i:Int)=some (acc++pairs (ns.drop i)):=by
 intro m
 induction m with
 | zero =>
  intro i n acc hi hn _
  obtain ⟨n,rfl⟩:∃ q,n=q+1:=⟨n - 1,by omega⟩
  obtain rfl:i=ns.length:=by omega
  rw [iT,aO8,fG,cond_false,List.drop_length]; simp [pairs]
 | succ m ih =>
  intro i n acc hi hn ha
  obtain ⟨n,rfl⟩:∃ q,n=q+1:=⟨n - 1,by omega⟩
  have h1:i < ns.length:=by omega
  have h2:i+1 < ns.length:=by omega
  have hm:∀ j,j < ns.length→ns.getD j 0 < 16:=fun j hj=>by
   rw [List.getD_eq_getElem?_getD,List.getElem?_eq_getElem hj]
   exact hb _ (List.getElem_mem _)
  rw [iT,aO8,dec_lt h1,cond_true,eD h1,bS (by omega),eD h2,bM,bM,aY2 h1,aY2 h2,aY,bK6 h1,bK6 h2]
  have ha1:=hm i h1
  have hb1:=hm (i+1) h2
  generalize ns.getD i 0=a at *
  generalize ns.getD (i+1) 0=b at *
  rw [aT4 ha1 hb1,aL ⟨by omega,by omega⟩,aL (by simp; omega),bM,eF (by omega),show (i:Int)+2=((i+1+1:Nat):Int) by omega,ih (i+1+1) n _ (by omega) (by omega) (by simp; omega)]
  simp only [pairs,List.append_assoc,List.singleton_append]
theorem bI6 {F:Nat} (hF:100000≤F) (l:List UInt8) (hl:l.length≤10000):∀ (m i n:Nat) (ns:List Nat),i+m=l.length→m < n→ns.length+m≤50000→(∀ v∈ns,v < 16) →
  dA (iO F l n (ints ns) (i:Int)) (fun e=>some e) (fun _=>some ((aD.mk 0 0 [] 0 0),(0:Int),(12:Int)))=some (aU1 l (bB0 (aG8 (l.drop i) ns))):=by
 intro m
 induction m with
 | zero =>
  intro i n ns hi hn _ _
  obtain ⟨n,rfl⟩:∃ q,n=q+1:=⟨n - 1,by omega⟩
  obtain rfl:i=l.length:=by omega
  rw [iO,fG,cond_false,List.drop_length,aW]; rfl
 | succ m ih =>
  intro i n ns hi hn hnl hb
  obtain ⟨n,rfl⟩:∃ q,n=q+1:=⟨n - 1,by omega⟩
  have hlt:i < l.length:=by omega
  have hp1:=pR (s:=l) (i:=i+1) (by omega)
  have hpl:=aG2 ns
  rw [iO,dec_lt hlt,cond_true,eD hlt,eD hlt,eD hlt,eD hlt,bM,bS (by omega),cM5,aA,bX hlt,aG8]
  generalize l.getD i 0=c at *
  cases hw:white c
  ·simp only [cond_false,aY,aO8,cI1]
   cases hz:(bif (c.toNat:Int) == 62 then decide (ns.length % 2=0) else false)
   ·simp only [cond_false]
    rw [bT4 (by omega),aA,xJ]
    cases hv:qB c with
    | none=>rfl
    | some v =>
     have hv16:=qW hv
     simp only [Option.isNone_some,cond_false,aA]
     rw [aL (by simp; omega),aW,aF5 hv]
     have h:=ih (i+1) n (ns++[v]) (by omega) (by omega) (by simp; omega) (fun w hw=>by
      rcases List.mem_append.1 hw with h | h
      ·exact hb w h
      ·rw [List.mem_singleton.1 h]; exact hv16)
     rw [show ints (ns++[v])=ints ns++[((v:Nat):Int)] by simp [ints]] at h
     exact h
   ·simp only [cond_true]
    have he:ns.length % 2=0:=by
     cases h62:(c.toNat:Int) == 62
     ·rw [h62] at hz; cases hz
     ·rw [h62] at hz; simpa using hz
    have h3:=bH8 F ns hb he (by omega) (ns.length / 2) 0 F [] (by omega) (by omega) (by simp; omega)
    rw [show ((0:Nat):Int)=0 from rfl,List.drop_zero,List.nil_append] at h3
    rw [h3,aA]
    unfold bB0
    simp only
    by_cases h1024:1024 < (pairs ns).length
    ·rw [decide_eq_true (show ((pairs ns).length:Int) > 1024 by omega),decide_eq_true h1024]; rfl
    ·rw [decide_eq_false (show ¬ ((pairs ns).length:Int) > 1024 by omega),decide_eq_false h1024]
     simp only [cond_false,bV,aU1]
     rw [hp1]
  ·simp only [cond_true,aW]
   exact ih (i+1) n ns (by omega) (by omega) (by omega) hb
theorem bK0 {F:Nat} (hF:100000≤F) {l:List UInt8} (hl:l.length≤10000):qV F l=some (aU1 l (bB0 (aG8 l []))) :=
 bI6 hF l hl l.length 0 F [] (by omega) (by omega) (by simp; omega) (fun v hv=>by cases hv)
end Go.Vm.ObjM.Lx
