/-
  Row 37,plain law: lists,dictionaries; all together.
-/
import Derived.Test.YtldmbabgcdmjcaaGreatDoorObjNd
namespace Go.Vm.ObjM
open Go.Vm
theorem cV8 {F:Nat} {s:List UInt8} {l:List bE} {t:aD} {j n fu:Nat} {d:Int} (h0:t.f0=0) (hst:dK F l.reverse t=some (false,wF t l.length)):bS4 F s n j l (bL F (fu+1) d s t.f0 t.f1 t.f2 t.f3 t.f4) (lY F s (jY F s n) l t t.f3):=by
 rw [bL]
 unfold gG lY
 rw [hst]
 dsimp only
 unfold wF
 rw [h0]
 exact .inl ⟨t.f3,12,by decide,rfl,rfl⟩
theorem dE2 {ks:List aG} {o:aG} (h:ks.length≤256):uQ (fr6 ks) o=some (fr6 (ks++[o])):=by
 unfold uQ fr6
 rw [decide_eq_false (show ¬ 1000≤ks.length by omega)]
 rfl
theorem dD9 {ks:List (List UInt8)} {ds:List aG} {k:List UInt8} {o:aG} (h:ds.length≤256) (hl:ks.length=ds.length):uQ (fr7 ks ds k true) o=some (fr7 (ks.take (dQ ks k)++k :: ks.drop (dQ ks k)) (ds.take (dQ ks k)++o :: ds.drop (dQ ks k)) k false):=by
 unfold uQ fr7
 dsimp only
 rw [decide_eq_false (show ¬ 1000≤ds.length by omega),cond_false,show ((7:Int) == 6)=false from rfl,cond_false,show ((7:Int) == 7)=true from rfl,hl,Bool.true_and,beq_self_eq_true,cond_true]
theorem count_eq (n:Nat):(((n:Nat):Int) == 256)=decide (n=256):=by
 by_cases h:n=256
 ·rw [h]; rfl
 ·rw [decide_eq_false h]; simpa using (by omega:¬ (n:Int)=256)
theorem cY1 {F:Nat} {s:List UInt8} (hF:100000≤F) (hs:s.length≤8192) {m:Nat} (hV:∀ m',m' < m→VP F s m') (hL:∀ m',m' < m→LP F s m'):LP F s m:=by
 intro l ks j n fu nl c1 c2 c3 c4 hm hl hk hsm hfu hn hj hnl
 obtain ⟨n,rfl⟩:∃ k,n=k+1:=⟨n - 1,by omega⟩
 obtain ⟨nl,rfl⟩:∃ k,nl=k+1:=⟨nl - 1,by omega⟩
 obtain ⟨t,p,e,h1,h2,h3⟩:=Lx.aO2 hF hs hj
 rw [eH]
 by_cases he:e=0
 ·subst he
  rw [if_pos rfl] at h2
  obtain ⟨hp,htl,hq⟩:=h3 rfl
  clear h3
  have hst:=cB9 (F:=F) (t:=t) (f:=fr6 ks) (r:=l) (by omega) rfl rfl
  rw [go_ok h1,bV0 h2]
  cases h7:t.f0 == 7 with
  | true =>
   have hne:¬ t.f0=0:=by simp only [beq_iff_eq] at h7; omega
   obtain ⟨q,q1,q2,q3⟩:=hq.resolve_left hne
   right
   refine ⟨ks,t,q,n,rfl,q1,by omega,q3,by omega,?_,hsm⟩
   unfold lY
   rw [hst,h7,cond_true,q1]
   rfl
  | false =>
   cases h0:t.f0 == 0 with
   | true =>
    left
    refine ⟨t.f3,12,by decide,rfl,?_⟩
    unfold lY
    rw [hst,h7,h0,hp]
    rfl
   | false =>
    have hne:¬ t.f0=0:=by simpa using h0
    obtain ⟨q,q1,q2,q3⟩:=hq.resolve_left hne
    clear hq hne
    rw [count_eq]
    cases h256:decide (ks.length=256) with
    | true =>
     left
     refine ⟨t.f3,2,by decide,rfl,?_⟩
     unfold lY
     rw [hst,h7,h0,hp,show decide ((fr6 ks).f0.f4.length=256)=true from h256]
     rfl
    | false =>
     have hk2:¬ ks.length=256:=of_decide_eq_false h256
     rw [h7,h0,show decide ((fr6 ks).f0.f4.length=256)=false from h256,cond_false,cond_false,cond_false] at hst
     have hv:=hV (2 * (s.length - q)+1) (by omega) (fr6 ks :: l) t q n fu (Nat.le_refl _) (.inr ⟨q1,q3⟩) htl (by simp; omega) (by simp; omega) (by omega) hst rfl
     simp only [cond_false,kQ,cond_true]
     unfold st
     dsimp only
     rw [bS (by omega)]
     rw [← hp]
     change bS4 F s n q (fr6 ks :: l) (bL F fu ((l.length+1+1:Nat):Int) s t.f0 t.f1 t.f2 t.f3 t.f4) _ at hv
     rcases hv with ⟨a,c,hc,g1,g2⟩ | ⟨o,t',j',n',g1,g2,g3,g4,g5,g6,g7⟩
     ·left
      rw [g1]
      exact ⟨a,c,hc,rfl,g2⟩
     ·rw [g1,g6,kQ]
      unfold st
      dsimp only
      rw [aL (by simp; omega),g2]
      have e1:kM F s (jY F s n') (fr6 ks :: l) o (j':Int)=jY F s n' (fr6 (ks++[o]) :: l) (j':Int):=by
       unfold kM
       dsimp only
       rw [dE2 hk]
      rw [e1]
      rcases hL (2 * (s.length - j')) (by omega) l (ks++[o]) j' n' fu nl t'.f0 t'.f1 t'.f2 t'.f3 (Nat.le_refl _) hl (by simp; omega) (fun x hx=>by rcases List.mem_append.1 hx with hx | hx; exact hsm x hx; rw [List.mem_singleton.1 hx]; exact g7) hfu (by omega) g4 (by simp; omega) with ⟨a,c,hc,f1,f2⟩ | ⟨ks',t'',j'',n'',f1,f2,f3,f4,f5,f6,f7⟩
      ·left
       exact ⟨a,c,hc,f1,f2⟩
      ·right
       exact ⟨ks',t'',j'',n'',f1,f2,by omega,f4,by omega,f6,f7⟩
 ·rw [if_neg he] at h2
  left
  rw [bH5 h2 he,aZ9 h1 he]
  exact ⟨p,e,he,rfl,rfl⟩
theorem cY2 {F:Nat} {s:List UInt8} (hF:100000≤F) (hs:s.length≤8192) {m:Nat} (hV:∀ m',m' < m→VP F s m') (hD:∀ m',m' < m→DP F s m'):DP F s m:=by
 intro l ks ds k0 j n fu nl c1 c2 c3 c4 hm hl hk hkl hsrt hkx hsm hfu hn hj hnl
 obtain ⟨n,rfl⟩:∃ k,n=k+1:=⟨n - 1,by omega⟩
 obtain ⟨nl,rfl⟩:∃ k,nl=k+1:=⟨nl - 1,by omega⟩
 obtain ⟨t,p,e,h1,h2,h3⟩:=Lx.aO2 hF hs hj
 rw [eO]
 by_cases he:e=0
 ·subst he
  rw [if_pos rfl] at h2
  obtain ⟨hp,htl,hq⟩:=h3 rfl
  clear h3
  have hst:=bZ6 (F:=F) (t:=t) (f:=fr7 ks ds k0 false) (r:=l) (by omega) rfl rfl (show ks.length≤100000 by omega) (show ks.length < F by omega)
  rw [go_ok h1,bV0 h2]
  cases h9:t.f0 == 9 with
  | true =>
   have hne:¬ t.f0=0:=by simp only [beq_iff_eq] at h9; omega
   obtain ⟨q,q1,q2,q3⟩:=hq.resolve_left hne
   right
   refine ⟨ks,ds,t,q,n,rfl,q1,by omega,q3,by omega,?_,hkx,hsm⟩
   unfold lY
   rw [hst,h9,cond_true,q1]
   rfl
  | false =>
   cases h0:t.f0 == 0 with
   | true =>
    left
    refine ⟨t.f3,12,by decide,rfl,?_⟩
    unfold lY
    rw [hst,h9,h0,hp]
    rfl
   | false =>
    have hne:¬ t.f0=0:=by simpa using h0
    obtain ⟨q,q1,q2,q3⟩:=hq.resolve_left hne
    clear hq hne
    rw [count_eq]
    cases h256:decide (ds.length=256) with
    | true =>
     left
     refine ⟨t.f3,2,by decide,rfl,?_⟩
     unfold lY
     rw [hst,h9,h0,hp,show decide ((fr7 ks ds k0 false).f0.f4.length=256)=true from h256]
     rfl
    | false =>
     have hk2:¬ ds.length=256:=of_decide_eq_false h256
     rw [h9,h0,show decide ((fr7 ks ds k0 false).f0.f4.length=256)=false from h256,cond_false,cond_false,cond_false] at hst
     simp only [cond_false,kQ,cond_true]
     unfold st
     dsimp only
     rw [dB3 hsrt (by omega) (by omega),aA]
     dsimp only
     cases h2k:t.f0 != 2 with
     | true =>
      left
      refine ⟨t.f3,5,by decide,rfl,?_⟩
      unfold lY
      rw [hst,h2k,hp]
      rfl
     | false =>
      rw [h2k,cond_false] at hst
      cases hct:ks.contains t.f2 with
      | true =>
       left
       refine ⟨t.f3,7,by decide,rfl,?_⟩
       unfold lY
       rw [hst,show (fr7 ks ds k0 false).f0.f3.contains t.f2=true from hct,hp]
       rfl
      | false =>
       rw [show (fr7 ks ds k0 false).f0.f3.contains t.f2=false from hct,cond_false] at hst
       have e0:lY F s (jY F s n) (fr7 ks ds k0 false :: l) t p=jY F s n (fr7 ks ds t.f2 true :: l) (q:Int):=by
        unfold lY
        rw [hst,q1]
        rfl
       rw [e0]
       simp only [cond_false,aW]
       obtain ⟨t2,p2,e2,i1,i2,i3⟩:=Lx.aO2 hF hs q3
       obtain ⟨n,rfl⟩:∃ k,n=k+1:=⟨n - 1,by omega⟩
       rw [q1]
       by_cases he2:e2=0
       ·subst he2
        rw [if_pos rfl] at i2
        obtain ⟨hp2,htl2,hq2⟩:=i3 rfl
        clear i3
        rw [wQ i2,kQ,go_ok i1,← hp2]
        unfold st
        dsimp only
        rw [bS (by omega)]
        have hst2:=cL3 (F:=F) (t:=t2) (f:=fr7 ks ds t.f2 true) (r:=l) (by omega) rfl
        have hv:∃ q':Nat,q < q'∧bS4 F s n q' (fr7 ks ds t.f2 true :: l) (bL F fu ((l.length+1+1:Nat):Int) s t2.f0 t2.f1 t2.f2 t2.f3 t2.f4) (lY F s (jY F s n) (fr7 ks ds t.f2 true :: l) t2 t2.f3):=by
         rcases hq2 with h | ⟨q',r1,r2,r3⟩
         ·obtain ⟨fu,rfl⟩:∃ k,fu=k+1:=⟨fu - 1,by omega⟩
          exact ⟨q+1,Nat.lt_succ_self _,cV8 h hst2⟩
         ·exact ⟨q',r2,hV (2 * (s.length - q')+1) (by omega) (fr7 ks ds t.f2 true :: l) t2 q' n fu (Nat.le_refl _) (.inr ⟨r1,r3⟩) htl2 (by simp; omega) (by simp; omega) (by omega) hst2 rfl⟩
        obtain ⟨q',r1,hv⟩:=hv
        clear hq2
        rcases hv with ⟨a,c,hc,g1,g2⟩ | ⟨o,t',j',n',g1,g2,g3,g4,g5,g6,g7⟩
        ·left
         rw [g1]
         exact ⟨a,c,hc,rfl,g2⟩
        ·rw [g1,g6,kQ]
         unfold st
         dsimp only
         have hat:=aD1 t.f2 ks
         rw [aL (by constructor <;> omega),aL (by constructor <;> omega),g2,Int.toNat_natCast]
         simp only [List.append_assoc,List.singleton_append]
         have e1:kM F s (jY F s n') (fr7 ks ds t.f2 true :: l) o (j':Int)=jY F s n' (fr7 (ks.take (dQ ks t.f2)++t.f2 :: ks.drop (dQ ks t.f2)) (ds.take (dQ ks t.f2)++o :: ds.drop (dQ ks t.f2)) t.f2 false :: l) (j':Int):=by
          unfold kM
          dsimp only
          rw [dD9 hk hkl]
         rw [e1]
         have len1:(ks.take (dQ ks t.f2)++t.f2 :: ks.drop (dQ ks t.f2)).length=ks.length+1:=by simp; omega
         have len2:(ds.take (dQ ks t.f2)++o :: ds.drop (dQ ks t.f2)).length=ds.length+1:=by simp; omega
         rcases hD (2 * (s.length - j')) (by omega) l (ks.take (dQ ks t.f2)++t.f2 :: ks.drop (dQ ks t.f2)) (ds.take (dQ ks t.f2)++o :: ds.drop (dQ ks t.f2)) t.f2 j' n' fu nl t'.f0 t'.f1 t'.f2 t'.f3 (Nat.le_refl _) hl (by omega) (by omega) (hsrt.ins hct)
          (fun x hx=>by
           rcases List.mem_append.1 hx with hx | hx
           ·exact hkx x (List.mem_of_mem_take hx)
           ·rcases List.mem_cons.1 hx with rfl | hx
            ·exact htl
            ·exact hkx x (List.mem_of_mem_drop hx))
          (fun x hx=>by
           rcases List.mem_append.1 hx with hx | hx
           ·exact hsm x (List.mem_of_mem_take hx)
           ·rcases List.mem_cons.1 hx with rfl | hx
            ·exact g7
            ·exact hsm x (List.mem_of_mem_drop hx)) hfu (by omega) g4 (by omega) with ⟨a,c,hc,f1,f2⟩ | ⟨ks',ds',t'',j'',n'',f1,f2,f3,f4,f5,f6,f7,f8⟩
         ·left
          exact ⟨a,c,hc,f1,f2⟩
         ·right
          exact ⟨ks',ds',t'',j'',n'',f1,f2,by omega,f4,by omega,f6,f7,f8⟩
       ·rw [if_neg he2] at i2
        left
        rw [rJ i2 he2,aZ9 i1 he2]
        exact ⟨p2,e2,he2,rfl,rfl⟩
 ·rw [if_neg he] at h2
  left
  rw [bH5 h2 he,aZ9 h1 he]
  exact ⟨p,e,he,rfl,rfl⟩
theorem cE3 {F:Nat} {s:List UInt8} (hF:100000≤F) (hs:s.length≤8192) (m:Nat):VP F s m∧LP F s m∧DP F s m:=by
 induction m using Nat.strongRecOn with
 | _ m ih=>exact ⟨cW0 hF (fun m' h=>(ih m' h).2.1) (fun m' h=>(ih m' h).2.2),cY1 hF hs (fun m' h=>(ih m' h).1) (fun m' h=>(ih m' h).2.1),cY2 hF hs (fun m' h=>(ih m' h).1) (fun m' h=>(ih m' h).2.2)⟩
end Go.Vm.ObjM
