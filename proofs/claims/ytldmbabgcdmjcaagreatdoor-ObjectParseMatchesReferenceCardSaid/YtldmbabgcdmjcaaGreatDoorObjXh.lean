/-
  token,reading: plain law 8: one token,in the reader and in the reference.
-/
import Derived.Test.YtldmbabgcdmjcaaGreatDoorObjXg
namespace Go.Vm.ObjM.Lx
theorem cQ6:∀ n:Nat,n < 256→(sgn (UInt8.ofNat n)=true∨dgt (UInt8.ofNat n)=true)→reg (UInt8.ofNat n)=true:=by decide +kernel
theorem cls {c:UInt8} (h:sgn c=true∨dgt c=true):reg c=true:=by
 have:=cQ6 c.toNat c.toNat_lt
 rw [UInt8.ofNat_toNat] at this
 exact this h
theorem cX6 (c:UInt8):dg (c.toNat:Int)=dgt c:=bD3 c
abbrev tz:aD:=⟨0,0,[],0,0⟩
/-- How a read token ends. -/
def fin (p:Nat) (k v:Int) (w:List UInt8) (e q:Int):aD×Int×Int:=if e=0 then (⟨k,v,w,p,q⟩,(p:Int),0) else (tz,(p:Int),e)
theorem aD3 (p:Nat) (k v:Int) (w:List UInt8) (e q:Int):(bif (e != 0) then some (tz,(p:Int),e) else some ((⟨k,v,w,(p:Int),q⟩:aD),(p:Int),(0:Int)))=some (fin p k v w e q):=by
 unfold fin
 by_cases h:e=0
 ·rw [if_pos h,h]; rfl
 ·rw [if_neg h,show (e != 0)=true by simpa using h]; rfl
theorem cC5:∀ (k:Nat) (l:List UInt8) (d:Nat) (acc w r:List UInt8),vG k l d acc=.inl (w,r)→r.length < l.length:=by
 intro k
 induction k with
 | zero=>intro l d acc w r h; cases h
 | succ k ih =>
  intro l d acc w r h
  cases l with
  | nil=>cases h
  | cons c t =>
   rw [List.length_cons]
   rw [vG] at h
   cases h92:(c.toNat:Int) == 92
   ·rw [h92,cond_false] at h
    cases h40:(c.toNat:Int) == 40
    ·rw [h40,cond_false] at h
     cases h41:(c.toNat:Int) == 41
     ·rw [h41,cond_false] at h
      exact Nat.lt_succ_of_lt (ih _ _ _ _ _ h)
     ·rw [h41,cond_true] at h
      cases hd:decide (d=1)
      ·rw [hd,cond_false] at h
       exact Nat.lt_succ_of_lt (ih _ _ _ _ _ h)
      ·rw [hd,cond_true] at h
       cases hl:decide (1024 < acc.length)
       ·rw [hl,cond_false] at h; cases h; omega
       ·rw [hl,cond_true] at h; cases h
    ·rw [h40,cond_true] at h
     cases hd:decide (16 < d+1)
     ·rw [hd,cond_false] at h
      exact Nat.lt_succ_of_lt (ih _ _ _ _ _ h)
     ·rw [hd,cond_true] at h; cases h
   ·rw [h92,cond_true] at h
    cases he:aU0 t acc with
    | inl y =>
     obtain ⟨w',r'⟩:=y
     rw [he] at h
     have h1:=ih _ _ _ _ _ h
     have h2:=(aS7 he).1
     omega
    | inr e=>rw [he] at h; cases h
theorem cH5:∀ (l:List UInt8) (ns ns':List Nat) (r:List UInt8),aG8 l ns=.inl (ns',r)→r.length < l.length:=by
 intro l
 induction l with
 | nil=>intro ns ns' r h; cases h
 | cons c t ih =>
  intro ns ns' r h
  rw [List.length_cons]
  rw [aG8] at h
  cases hw:white c
  ·rw [hw,cond_false] at h
   cases hz:(bif (c.toNat:Int) == 62 then decide (ns.length % 2=0) else false)
   ·rw [hz,cond_false] at h
    cases hv:qB c with
    | none=>rw [hv] at h; cases h
    | some v=>rw [hv] at h; exact Nat.lt_succ_of_lt (ih _ _ _ h)
   ·rw [hz,cond_true] at h; cases h; omega
  ·rw [hw,cond_true] at h
   exact Nat.lt_succ_of_lt (ih _ _ _ h)
theorem cL6 {l:List UInt8} {w r:List UInt8} (h:bB0 (aG8 l [])=.inl (w,r)):r.length < l.length:=by
 cases hx:aG8 l [] with
 | inl y =>
  obtain ⟨ns,r'⟩:=y
  rw [hx] at h
  unfold bB0 at h
  simp only at h
  cases hl:decide (1024 < (pairs ns).length)
  ·rw [hl,cond_false] at h; cases h; exact cH5 _ _ _ _ hx
  ·rw [hl,cond_true] at h; cases h
 | inr e=>rw [hx] at h; cases h
theorem cL2 {F:Nat} (hF:100000≤F) {s:List UInt8} (hs:s.length≤8192) {i:Nat} (hi:i≤s.length) :
  ∃ r,mX F s (i:Int)=some r∧lC F s (i:Int)=some r∧(r.2.2=0→r.1.f0=0∨∃ q:Nat,r.1.f4=(q:Int)∧i < q∧q≤s.length):=by
 unfold mX lC
 rw [cP9 (by omega) (by omega) hi,aA,cA1 s (by omega) (by omega) (s.length - i) i F (by omega) (by omega),aA]
 have hsuf:nR false (s.drop i) <:+ s:=bD6 (aW2 _ _)
 have hle:=(aW2 (s.drop i) false).length_le
 rw [List.length_drop] at hle
 have hd0:=yN hsuf
 have hlen:=hsuf.length_le
 have hpd:lW s (nR false (s.drop i))=s.length - (nR false (s.drop i)).length:=rfl
 generalize nR false (s.drop i)=l at *
 cases l with
 | nil =>
  rw [show ((((lW s []:Nat):Int)) == (s.length:Int))=true by rw [beq_iff_eq,hpd]; rfl]
  exact ⟨_,rfl,rfl,fun _=>.inl rfl⟩
 | cons c t =>
  rw [List.length_cons] at hle hlen hpd
  generalize lW s (c :: t)=p at *
  have hplt:p < s.length:=by omega
  have hg:s.getD p 0=c:=by
   have:=bX hplt
   rw [hd0] at this
   exact (List.cons.inj this).1.symm
  have hd1:s.drop (p+1)=t:=by
   have:=bX hplt
   rw [hd0] at this
   exact (List.cons.inj this).2.symm
  have hrt:=bQ1 t
  have hw1:IntKind.i64.wrap ((p:Int)+1)=((p+1:Nat):Int):=bS (by omega)
  have hne:(((p:Nat):Int) == (s.length:Int))=false:=by rw [beq_eq_false_iff_ne]; omega
  have h4:=bZ4 (F:=F) (by omega) s (by omega) (s.length - (p+1)) (p+1) F (by omega) (by omega)
  rw [hd1] at h4
  have hrun0:=run_eq (F:=F) (s:=s) (by omega) (by omega) (i:=p) (by omega)
  have hrun1:=run_eq (F:=F) (s:=s) (by omega) (by omega) (i:=p+1) (by omega)
  rw [hd0] at hrun0
  rw [hd1] at hrun1
  have hq:IntKind.i64.wrap (((p+1+(run t).length:Nat):Int) - (p:Int))=((1+(run t).length:Nat):Int):=by rw [eF (by omega)]; omega
  have hq2:IntKind.i64.wrap ((p:Int)+((1+(run t).length:Nat):Int))=((p+1+(run t).length:Nat):Int):=by rw [eF (by omega)]; omega
  have hrun0':reg c=true→gD F s (p:Int)=some (c :: run t,s,((p+1+(run t).length:Nat):Int)):=by
   intro h
   rw [hrun0,aL6,h,cond_true,List.length_cons,show p+((run t).length+1)=p+1+(run t).length by omega]
  have htk0:(c :: t).take (p+1+(run t).length - p)=c :: run t:=by
   rw [show p+1+(run t).length - p=(run t).length+1 by omega,List.take_succ_cons,aL7]
  have htk1:t.take (p+1+(run t).length - (p+1))=run t:=by rw [Nat.add_sub_cancel_left,aL7]
  have hend:∃ q:Nat,((p+1+(run t).length:Nat):Int)=(q:Int)∧i < q∧q≤s.length:=⟨_,rfl,by omega,by omega⟩
  have hprog:∀ (k v:Int) (w:List UInt8) (e:Int) (q:Nat),i < q→q≤s.length→(fin p k v w e (q:Int)).2.2=0→(fin p k v w e (q:Int)).1.f0=0∨∃ q':Nat,(fin p k v w e (q:Int)).1.f4=(q':Int)∧i < q'∧q'≤s.length:=by
   intro k v w e q h1 h2 h3
   unfold fin at h3 ⊢
   by_cases h:e=0
   ·rw [if_pos h]; exact .inr ⟨q,rfl,h1,h2⟩
   ·rw [if_neg h] at h3; exact absurd h3 h
  simp only [hne,cond_false]
  rw [eD hplt,hw1,h4,aA,aL (fun h=>⟨by omega,by simpa using h⟩),aY]
  unfold jS
  rw [eD hplt]
  simp only [bM,hg,hd0,hd1,hw1,hq,aY]
  rw [aL (fun h=>⟨by omega,by simpa using h⟩)]
  change ∃ r,call (call (bif ((sgn c == false) && true) then jA F (c.toNat:Int) else some false) fun y1=>bif (bif sgn c then true else y1) then _ else _) _=some r∧call (call (bif ((sgn c == false) && true) then gY F (c.toNat:Int) else some false) fun y3=>bif (bif sgn c then true else y3) then _ else _) _=some r∧_
  rw [aZ2,wB]
  rw [show (bif ((sgn c == false) && true) then some (dgt c) else some false)=some (bif sgn c then false else dgt c) by cases sgn c <;> rfl,aA,aA]
  cases hA:(bif sgn c then true else (bif sgn c then false else dgt c))
  ·have hsg:sgn c=false:=by
    cases h:sgn c
    ·rfl
    ·rw [h] at hA; cases hA
   have hdg:dgt c=false:=by rw [hsg] at hA; exact hA
   simp only [cond_false]
   rw [dB5,aA,cN4 (by omega),aA]
   cases hB:reg c
   ·simp only [cond_false]
    by_cases e47':(c.toNat:Int) == 47
    ·have hc:(c.toNat:Int)=47:=by simpa using e47'
     have e43:((c.toNat:Int) == 43)=false:=by rw [hc]; rfl
     have e45:((c.toNat:Int) == 45)=false:=by rw [hc]; rfl
     have e47:((c.toNat:Int) == 47)=true:=by rw [hc]; rfl
     have e64:((c.toNat:Int) == 64)=false:=by rw [hc]; rfl
     have e40:((c.toNat:Int) == 40)=false:=by rw [hc]; rfl
     have e91:((c.toNat:Int) == 91)=false:=by rw [hc]; rfl
     have e93:((c.toNat:Int) == 93)=false:=by rw [hc]; rfl
     have e60:((c.toNat:Int) == 60)=false:=by rw [hc]; rfl
     have e62:((c.toNat:Int) == 62)=false:=by rw [hc]; rfl
     simp only [e47,cond_true]
     rw [cS8 (by omega) (by omega) (by omega),aA,hd1,aL ⟨by omega,by omega,by omega⟩,htk1,bE5 (by omega) (by omega),aA,aW]
     generalize aI1 (run t)=N
     obtain ⟨w,e⟩:=N
     refine ⟨fin p 2 0 w e ((p+1+(run t).length:Nat):Int),aD3 _ _ _ _ _ _,?_,hprog _ _ _ _ _ (by omega) (by omega)⟩
     by_cases he:e=0
     ·subst he
      simp only [if_true,aA,hq2]
      rfl
     ·simp only [if_neg he,aA]
      rw [show (e != 0)=true by simpa using he]
      unfold fin
      rw [if_neg he]; rfl
    by_cases e64':(c.toNat:Int) == 64
    ·have hc:(c.toNat:Int)=64:=by simpa using e64'
     have e43:((c.toNat:Int) == 43)=false:=by rw [hc]; rfl
     have e45:((c.toNat:Int) == 45)=false:=by rw [hc]; rfl
     have e47:((c.toNat:Int) == 47)=false:=by rw [hc]; rfl
     have e64:((c.toNat:Int) == 64)=true:=by rw [hc]; rfl
     have e40:((c.toNat:Int) == 40)=false:=by rw [hc]; rfl
     have e91:((c.toNat:Int) == 91)=false:=by rw [hc]; rfl
     have e93:((c.toNat:Int) == 93)=false:=by rw [hc]; rfl
     have e60:((c.toNat:Int) == 60)=false:=by rw [hc]; rfl
     have e62:((c.toNat:Int) == 62)=false:=by rw [hc]; rfl
     simp only [e47,e64,cond_true,cond_false]
     rw [hrun1,aA,bC1 (w:=run t) (by omega),aA,aL ⟨by omega,by omega,by omega⟩,htk1,bJ2 (by omega) (by omega),aA,aW]
     generalize aM4 (run t)=N
     obtain ⟨w,e⟩:=N
     refine ⟨fin p 4 w [] e ((p+1+(run t).length:Nat):Int),aD3 _ _ _ _ _ _,?_,hprog _ _ _ _ _ (by omega) (by omega)⟩
     by_cases he:e=0
     ·subst he
      simp only [if_true,aA,hq2]
      rfl
     ·simp only [if_neg he,aA]
      rw [show (e != 0)=true by simpa using he]
      unfold fin
      rw [if_neg he]; rfl
    by_cases e40':(c.toNat:Int) == 40
    ·have hc:(c.toNat:Int)=40:=by simpa using e40'
     have e43:((c.toNat:Int) == 43)=false:=by rw [hc]; rfl
     have e45:((c.toNat:Int) == 45)=false:=by rw [hc]; rfl
     have e47:((c.toNat:Int) == 47)=false:=by rw [hc]; rfl
     have e64:((c.toNat:Int) == 64)=false:=by rw [hc]; rfl
     have e40:((c.toNat:Int) == 40)=true:=by rw [hc]; rfl
     have e91:((c.toNat:Int) == 91)=false:=by rw [hc]; rfl
     have e93:((c.toNat:Int) == 93)=false:=by rw [hc]; rfl
     have e60:((c.toNat:Int) == 60)=false:=by rw [hc]; rfl
     have e62:((c.toNat:Int) == 62)=false:=by rw [hc]; rfl
     simp only [e47,e64,e40,e91,e93,e60,e62,cond_true,cond_false]
     obtain ⟨x,hx,hxs⟩:=cU1 (F:=F) (s:=s) (by omega) (by omega) (i:=p+1) (by omega)
     rw [hd1] at hxs
     have htl:t.take ((s.length:Int).toNat - (p+1))=t:=List.take_of_length_le (by rw [bM]; omega)
     rw [show ((s.length:Int).toNat)=s.length from rfl] at htl
     rw [hx,aA,aW,aL ⟨by omega,by omega,by omega⟩,htl,bA9 (by omega) (by omega),aA]
     cases hts:vG 20000 t 1 [] with
     | inl y =>
      obtain ⟨w,r⟩:=y
      rw [hts] at hxs
      obtain rfl:=hxs
      have hrl:=cC5 _ _ _ _ _ _ hts
      have hp2:lW s r=s.length - r.length:=rfl
      have hp3:lW t r=t.length - r.length:=rfl
      have htl2:t.length=s.length - (p+1):=by omega
      have hqq:IntKind.i64.wrap ((p:Int)+IntKind.i64.wrap (((lW t r:Nat):Int)+1))=((lW s r:Nat):Int):=by
       rw [bS (by omega),eF (by omega)]; omega
      refine ⟨fin p 3 0 w 0 ((lW s r:Nat):Int),rfl,?_,hprog _ _ _ _ _ (by omega) (by omega)⟩
      simp only [aU1,aA]
      rw [hqq]
      rfl
     | inr e =>
      rw [hts] at hxs
      obtain ⟨h1,h2,h3⟩:=hxs
      obtain ⟨xa,xb,xc,xd⟩:=x
      obtain rfl:xb=e:=h2
      refine ⟨fin p 3 0 xa xb xd,aD3 _ _ _ _ _ _,?_,fun h=>?_⟩
      ·simp only [aU1,aA]
       rw [show (xb != 0)=true by simpa using h1]
       unfold fin
       rw [if_neg h1]; rfl
      ·unfold fin at h
       rw [if_neg h1] at h
       exact absurd h h1
    by_cases e91':(c.toNat:Int) == 91
    ·have hc:(c.toNat:Int)=91:=by simpa using e91'
     have e43:((c.toNat:Int) == 43)=false:=by rw [hc]; rfl
     have e45:((c.toNat:Int) == 45)=false:=by rw [hc]; rfl
     have e47:((c.toNat:Int) == 47)=false:=by rw [hc]; rfl
     have e64:((c.toNat:Int) == 64)=false:=by rw [hc]; rfl
     have e40:((c.toNat:Int) == 40)=false:=by rw [hc]; rfl
     have e91:((c.toNat:Int) == 91)=true:=by rw [hc]; rfl
     have e93:((c.toNat:Int) == 93)=false:=by rw [hc]; rfl
     have e60:((c.toNat:Int) == 60)=false:=by rw [hc]; rfl
     have e62:((c.toNat:Int) == 62)=false:=by rw [hc]; rfl
     simp only [e47,e64,e40,e91,e93,e60,e62,cond_true,cond_false,aW,aA]
     refine ⟨fin p 6 0 [] 0 ((p+1:Nat):Int),rfl,?_,hprog _ _ _ _ _ (by omega) (by omega)⟩
     rw [hw1]
     rfl
    by_cases e93':(c.toNat:Int) == 93
    ·have hc:(c.toNat:Int)=93:=by simpa using e93'
     have e43:((c.toNat:Int) == 43)=false:=by rw [hc]; rfl
     have e45:((c.toNat:Int) == 45)=false:=by rw [hc]; rfl
     have e47:((c.toNat:Int) == 47)=false:=by rw [hc]; rfl
     have e64:((c.toNat:Int) == 64)=false:=by rw [hc]; rfl
     have e40:((c.toNat:Int) == 40)=false:=by rw [hc]; rfl
     have e91:((c.toNat:Int) == 91)=false:=by rw [hc]; rfl
     have e93:((c.toNat:Int) == 93)=true:=by rw [hc]; rfl
     have e60:((c.toNat:Int) == 60)=false:=by rw [hc]; rfl
     have e62:((c.toNat:Int) == 62)=false:=by rw [hc]; rfl
     simp only [e47,e64,e40,e91,e93,e60,e62,cond_true,cond_false,aW,aA]
     refine ⟨fin p 7 0 [] 0 ((p+1:Nat):Int),rfl,?_,hprog _ _ _ _ _ (by omega) (by omega)⟩
     rw [hw1]
     rfl
    have hpl2:(bif decide (((p+1:Nat):Int) < (s.length:Int)) then (((s.getD (p+1) 0).toNat:Int) == (c.toNat:Int)) else false)=true→p+1 < s.length:=by
     intro h
     cases hb:decide (((p+1:Nat):Int) < (s.length:Int))
     ·rw [hb] at h; cases h
     ·have:=of_decide_eq_true hb; omega
    have hw2:IntKind.i64.wrap (((p+1:Nat):Int)+1)=((p+1+1:Nat):Int):=bS (by omega)
    have hw3:IntKind.i64.wrap ((p:Int)+2)=((p+1+1:Nat):Int):=by rw [eF (by omega)]; omega
    generalize (bif decide (((p+1:Nat):Int) < (s.length:Int)) then (((s.getD (p+1) 0).toNat:Int) == (c.toNat:Int)) else false)=Z at *
    by_cases e60':(c.toNat:Int) == 60
    ·have hc:(c.toNat:Int)=60:=by simpa using e60'
     have e43:((c.toNat:Int) == 43)=false:=by rw [hc]; rfl
     have e45:((c.toNat:Int) == 45)=false:=by rw [hc]; rfl
     have e47:((c.toNat:Int) == 47)=false:=by rw [hc]; rfl
     have e64:((c.toNat:Int) == 64)=false:=by rw [hc]; rfl
     have e40:((c.toNat:Int) == 40)=false:=by rw [hc]; rfl
     have e91:((c.toNat:Int) == 91)=false:=by rw [hc]; rfl
     have e93:((c.toNat:Int) == 93)=false:=by rw [hc]; rfl
     have e60:((c.toNat:Int) == 60)=true:=by rw [hc]; rfl
     have e62:((c.toNat:Int) == 62)=false:=by rw [hc]; rfl
     cases Z
     ·simp only [e47,e64,e40,e91,e93,e60,e62,cond_true,cond_false]
      obtain ⟨x,hx,hxs⟩:=cX1 (F:=F) (s:=s) (by omega) (by omega) (i:=p+1) (by omega)
      rw [hd1] at hxs
      have htl:t.take ((s.length:Int).toNat - (p+1))=t:=List.take_of_length_le (by rw [bM]; omega)
      rw [hx,aA,aW,aL ⟨by omega,by omega,by omega⟩]
      rw [show ((s.length:Int).toNat)=s.length from rfl] at htl
      rw [htl,bK0 (by omega) (by omega),aA]
      cases hts:bB0 (aG8 t []) with
      | inl y =>
       obtain ⟨w,r⟩:=y
       rw [hts] at hxs
       obtain rfl:=hxs
       have hrl:=cL6 hts
       have hp2:lW s r=s.length - r.length:=rfl
       have hp3:lW t r=t.length - r.length:=rfl
       have htl2:t.length=s.length - (p+1):=by omega
       have hqq:IntKind.i64.wrap ((p:Int)+IntKind.i64.wrap (((lW t r:Nat):Int)+1))=((lW s r:Nat):Int):=by
        rw [bS (by omega),eF (by omega)]; omega
       refine ⟨fin p 3 0 w 0 ((lW s r:Nat):Int),rfl,?_,hprog _ _ _ _ _ (by omega) (by omega)⟩
       simp only [aU1,aA]
       rw [hqq]
       rfl
      | inr e =>
       rw [hts] at hxs
       obtain ⟨h1,h2,h3⟩:=hxs
       obtain ⟨xa,xb,xc,xd⟩:=x
       obtain rfl:xb=e:=h2
       refine ⟨fin p 3 0 xa xb xd,aD3 _ _ _ _ _ _,?_,fun h=>?_⟩
       ·simp only [aU1,aA]
        rw [show (xb != 0)=true by simpa using h1]
        unfold fin
        rw [if_neg h1]; rfl
       ·unfold fin at h
        rw [if_neg h1] at h
        exact absurd h h1
     ·have h12:=hpl2 rfl
      simp only [e47,e64,e40,e91,e93,e60,e62,cond_true,cond_false,aW,aA,hw2]
      refine ⟨fin p 8 0 [] 0 ((p+1+1:Nat):Int),rfl,?_,hprog _ _ _ _ _ (by omega) (by omega)⟩
      rw [hw3]
      rfl
    by_cases e62':(c.toNat:Int) == 62
    ·have hc:(c.toNat:Int)=62:=by simpa using e62'
     have e43:((c.toNat:Int) == 43)=false:=by rw [hc]; rfl
     have e45:((c.toNat:Int) == 45)=false:=by rw [hc]; rfl
     have e47:((c.toNat:Int) == 47)=false:=by rw [hc]; rfl
     have e64:((c.toNat:Int) == 64)=false:=by rw [hc]; rfl
     have e40:((c.toNat:Int) == 40)=false:=by rw [hc]; rfl
     have e91:((c.toNat:Int) == 91)=false:=by rw [hc]; rfl
     have e93:((c.toNat:Int) == 93)=false:=by rw [hc]; rfl
     have e60:((c.toNat:Int) == 60)=false:=by rw [hc]; rfl
     have e62:((c.toNat:Int) == 62)=true:=by rw [hc]; rfl
     cases Z
     ·simp only [e47,e64,e40,e91,e93,e60,e62,cond_true,cond_false,Bool.not_false,bV,aA]
      exact ⟨fin p 0 0 [] 5 ((p+1:Nat):Int),rfl,rfl,fun h=>by cases h⟩
     ·have h12:=hpl2 rfl
      simp only [e47,e64,e40,e91,e93,e60,e62,cond_true,cond_false,Bool.not_true,aW,aA,hw2]
      refine ⟨fin p 9 0 [] 0 ((p+1+1:Nat):Int),rfl,?_,hprog _ _ _ _ _ (by omega) (by omega)⟩
      rw [hw3]
      rfl
    have e47:((c.toNat:Int) == 47)=false:=by simpa using e47'
    have e64:((c.toNat:Int) == 64)=false:=by simpa using e64'
    have e40:((c.toNat:Int) == 40)=false:=by simpa using e40'
    have e91:((c.toNat:Int) == 91)=false:=by simpa using e91'
    have e93:((c.toNat:Int) == 93)=false:=by simpa using e93'
    have e60:((c.toNat:Int) == 60)=false:=by simpa using e60'
    have e62:((c.toNat:Int) == 62)=false:=by simpa using e62'
    simp only [e47,e64,e40,e91,e93,e60,e62,cond_false,bV,aA]
    exact ⟨fin p 0 0 [] 5 ((p+1:Nat):Int),rfl,rfl,fun h=>by cases h⟩
   ·simp only [cond_true]
    rw [hrun0' hB,aA,aL ⟨by omega,by omega,by omega⟩,aL ⟨by omega,by omega,by omega⟩,htk0]
    have hlw:(c :: run t).length≤maxLen:=by rw [List.length_cons]; show _≤9223372036854775807; omega
    rw [bC7 hlw (by rw [List.length_cons]; omega),aA,aA,wL hlw (by rw [List.length_cons]; omega),aA]
    have hwy:qF (c :: run t)=(c :: run t).all okb:=by
     unfold qF
     rw [show (c :: run t == [])=false from rfl,show ((c :: run t).getD 0 0)=c from rfl,cX6,hdg]
     simp
    rw [hwy]
    cases hok:(c :: run t).all okb
    ·exact ⟨fin p 5 0 [] 5 ((p+1+(run t).length:Nat):Int),rfl,rfl,hprog _ _ _ _ _ (by omega) (by omega)⟩
    ·by_cases h31:(c :: run t).length > 31
     ·simp only [if_true,if_pos h31]
      exact ⟨fin p 5 0 [] 2 ((p+1+(run t).length:Nat):Int),rfl,rfl,hprog _ _ _ _ _ (by omega) (by omega)⟩
     ·simp only [if_true,if_neg h31,aA,hq2]
      exact ⟨fin p 5 0 (c :: run t) 0 ((p+1+(run t).length:Nat):Int),rfl,rfl,hprog _ _ _ _ _ (by omega) (by omega)⟩
  ·have hsd:sgn c=true∨dgt c=true:=by
    cases h:sgn c
    ·rw [h] at hA; exact .inr hA
    ·exact .inl rfl
   simp only [cond_true]
   rw [hrun0' (cls hsd),aA,bN3 hsd (by omega),aA,aL ⟨by omega,by omega,by omega⟩,htk0,bG8 (by omega) hsd (by omega),aA]
   generalize bP4 c (run t)=N
   obtain ⟨w,e⟩:=N
   refine ⟨fin p 1 w [] e ((p+1+(run t).length:Nat):Int),aD3 _ _ _ _ _ _,?_,hprog _ _ _ _ _ (by omega) (by omega)⟩
   by_cases he:e=0
   ·subst he
    simp only [if_true,aA,hq2]
    rfl
   ·simp only [if_neg he,aA]
    rw [show (e != 0)=true by simpa using he]
    unfold fin
    rw [if_neg he]; rfl
end Go.Vm.ObjM.Lx
