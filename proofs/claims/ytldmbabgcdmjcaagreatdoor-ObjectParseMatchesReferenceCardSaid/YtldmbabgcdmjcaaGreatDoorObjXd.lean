/-
  token,reading: plain law 4: names.
-/
import Derived.Test.YtldmbabgcdmjcaaGreatDoorObjXc
namespace Go.Vm.ObjM.Lx
def pX (a b:UInt8):Option Nat:=match qB a,qB b with | some x,some y=>some (x * 16+y) | _,_=>none
theorem bF7 {a b:UInt8} {v:Nat} (h:pX a b=some v):v < 256:=by
 unfold pX at h
 cases ha:qB a with
 | none=>rw [ha] at h; cases h
 | some x =>
  cases hb:qB b with
  | none=>rw [ha,hb] at h; cases h
  | some y =>
   rw [ha,hb] at h
   have:=qW ha
   have:=qW hb
   cases h; omega
theorem bG3 {F:Nat} {s:List UInt8} (hs:s.length≤10000) {i:Nat} (hi:i≤s.length) (h:s.length < i+2):gJ F s (i:Int)=some (0,false,s,(i:Int)):=by
 unfold gJ
 rw [eF (by omega),decide_eq_true (show (i:Int)+2 > s.length by omega),cond_true]
theorem bG0 {F:Nat} {s:List UInt8} (hs:s.length≤10000) {i:Nat} (h:i+2≤s.length) :
  ∃ z,gJ F s (i:Int)=some (z,(pX (s.getD i 0) (s.getD (i+1) 0)).isSome,s,((i+2:Nat):Int))∧∀ v,pX (s.getD i 0) (s.getD (i+1) 0)=some v→z=(v:Int):=by
 unfold gJ
 rw [eF (by omega),decide_eq_false (show ¬ (i:Int)+2 > s.length by omega),cond_false,eD (by omega),bM,cW7,aA,bS (by omega),eD (by omega),bM,cW7,aA,aY]
 generalize s.getD i 0=a
 generalize s.getD (i+1) 0=b
 unfold pX
 cases ha:qB a with
 | none=>exact ⟨_,rfl,fun v h=>by cases h⟩
 | some x =>
  cases hb:qB b with
  | none=>exact ⟨_,rfl,fun v h=>by cases h⟩
  | some y =>
   have hx:=qW ha
   have hy:=qW hb
   have:=bK3 x hx y hy
   exact ⟨_,rfl,fun v h=>by cases h; exact this⟩
/-! ## Names -/
def ctl (c:UInt8):Bool:=bif (decide ((c.toNat:Int) < 33)) then true else (decide ((c.toNat:Int) > 126))
def nQ:List UInt8→Option (List UInt8)
 | []=>some []
 | c :: t =>
  if ((c.toNat:Int) == 35)=true then
   match t with
   | a :: b :: r=>match pX a b with
    | some v=>if v=0 then none else (nQ r).map (UInt8.ofNat v :: ·)
    | none=>none
   | _=>none
  else if ctl c=true then none else (nQ t).map (c :: ·)
theorem yL:nQ []=some []:=by rw [nQ.eq_def]
theorem yJ {c:UInt8} {t:List UInt8} (h:((c.toNat:Int) == 35)=true) (hl:t.length < 2):nQ (c :: t)=none:=by
 rw [nQ.eq_def]
 simp only [h,if_true]
 match t,hl with
 | [],_=>rfl
 | [_],_=>rfl
theorem aA0 {c a b:UInt8} {r:List UInt8} (h:((c.toNat:Int) == 35)=true):nQ (c :: a :: b :: r)=match pX a b with
    | some v=>if v=0 then none else (nQ r).map (UInt8.ofNat v :: ·)
    | none=>none:=by
 rw [nQ.eq_def]
 simp only [h,if_true]
theorem aG4 {c:UInt8} {t:List UInt8} (h:((c.toNat:Int) == 35)=false) (hc:ctl c=true):nQ (c :: t)=none:=by
 rw [nQ.eq_def]
 simp only [h,hc,if_true,Bool.false_eq_true,if_false]
theorem aH5 {c:UInt8} {t:List UInt8} (h:((c.toNat:Int) == 35)=false) (hc:ctl c=false):nQ (c :: t)=(nQ t).map (c :: ·):=by
 rw [nQ.eq_def]
 simp only [h,hc,Bool.false_eq_true,if_false]
def bA2 (acc:List UInt8) {ε:Type} (e:ε):Option (List UInt8)→Out (List UInt8) ε
 | some l=>.go (acc++l)
 | none=>.esc e
theorem yS {acc:List UInt8} {c:UInt8} {ε:Type} {e:ε} (o:Option (List UInt8)):bA2 acc e (o.map (c :: ·))=bA2 (acc++[c]) e o:=by
 cases o with
 | none=>rfl
 | some l=>simp [bA2]
theorem aY8 (F:Nat) (y1:(List UInt8)×(List UInt8)×Int) (w:List UInt8) (hw:w.length≤10000):∀ (m i n:Nat) (acc:List UInt8),i+m=w.length→m < n→acc.length+m≤100000 →
  dM F y1 n w (i:Int) acc=some (bA2 acc ([],(5:Int),y1.2.1,y1.2.2) (nQ (w.drop i))):=by
 intro m
 induction m using Nat.strongRecOn with
 | _ m ih =>
  intro i n acc hi hn ha
  obtain ⟨n,rfl⟩:∃ q,n=q+1:=⟨n - 1,by omega⟩
  by_cases hm:m=0
  ·obtain rfl:i=w.length:=by omega
   rw [dM,fG,cond_false,List.drop_length,yL]
   simp [bA2]
  ·have hlt:i < w.length:=by omega
   rw [dM,dec_lt hlt,cond_true,eD hlt,bM,bS (by omega)]
   have hdr:=bX hlt
   rw [hdr]
   have hcr:=aD7 (w.getD i 0)
   cases h35:((w.getD i 0).toNat:Int) == 35
   ·rw [cond_false,aY]
    change (bif ctl (w.getD i 0) then _ else _)=_
    cases hc:ctl (w.getD i 0)
    ·rw [cond_false]
     unfold aN
     rw [aL hcr,aL (by simp; omega),aA,ofc,ih (m - 1) (by omega) (i+1) n _ (by omega) (by omega) (by simp; omega),aH5 h35 hc,yS]
    ·rw [cond_true,aG4 h35 hc]; rfl
   ·rw [cond_true]
    by_cases h2:w.length < i+3
    ·rw [bG3 hw (by omega) (by omega),aA,yJ h35 (by rw [List.length_drop]; omega)]; rfl
    ·obtain ⟨z,hz,hzv⟩:=bG0 (F:=F) hw (i:=i+1) (by omega)
     have hd1:=bX (s:=w) (i:=i+1) (by omega)
     have hd2:=bX (s:=w) (i:=i+1+1) (by omega)
     rw [hz,aA,hd1,hd2,aA0 h35]
     cases hp:pX (w.getD (i+1) 0) (w.getD (i+1+1) 0) with
     | none=>rfl
     | some v =>
      have hvl:=bF7 hp
      rw [hzv v hp]
      by_cases hv0:v=0
      ·subst hv0; rfl
      ·simp only [Option.isSome_some,Bool.not_true,cond_false,if_neg hv0]
       rw [show (((v:Nat):Int) == 0)=false by rw [beq_eq_false_iff_ne]; omega,cond_false]
       unfold aN
       rw [aL ⟨by omega,by omega⟩,aL (by simp; omega),aA,ih (m - 3) (by omega) (i+1+2) n _ (by omega) (by omega) (by simp; omega),bM,yS]
theorem xJ (a:UInt8):decide (aK1 a < 0)=(qB a).isNone:=by
 unfold aK1
 cases h:qB a with
 | none=>rfl
 | some v =>
  show decide ((v:Int) < 0)=false
  exact decide_eq_false (by omega)
theorem bC4 {F:Nat} (hF:20000≤F):∀ (m n:Nat) (w acc:List UInt8),w.length=m→m≤10000→m < n→acc.length+m≤100000 →
  gZ F n w acc=some (bA2 acc ((aD.mk 0 0 [] 0 0),(5:Int)) (nQ w)):=by
 intro m
 induction m using Nat.strongRecOn with
 | _ m ih =>
  intro n w acc hw hm hn ha
  obtain ⟨n,rfl⟩:∃ q,n=q+1:=⟨n - 1,by omega⟩
  cases w with
  | nil =>
   rw [gZ,yL]
   simp [bA2]
  | cons c t =>
   have hlen:((c :: t).length:Int)=(t.length:Int)+1:=by simp
   have hlen2:t.length+1=m:=by simpa using hw
   rw [gZ,show (!(c :: t) == [])=true from rfl,cond_true,aL ⟨by omega,by omega⟩,show ((c :: t).getD (0:Int).toNat 0)=c from rfl]
   have hcr:=aD7 c
   cases h35:(c.toNat:Int) == 35
   ·rw [cond_false,aY]
    change dA (bif ctl c then _ else _) _ _=_
    cases hc:ctl c
    ·rw [cond_false,aW]
     simp only
     rw [aL hcr,aL (by simp; omega),aL ⟨by omega,by omega,by omega⟩]
     rw [show (((c :: t).drop (1:Int).toNat).take (((c :: t).length:Int).toNat - (1:Int).toNat))=t by
      rw [bM]; show (t.take (t.length+1 - 1))=t; rw [Nat.add_sub_cancel,List.take_length]]
     rw [ih t.length (by omega) n t _ rfl (by omega) (by omega) (by simp; omega),ofc,aH5 h35 hc,yS]
    ·rw [cond_true,bV,aG4 h35 hc]; rfl
   ·rw [cond_true]
    by_cases h2:t.length < 2
    ·rw [decide_eq_true (show ((c :: t).length:Int) < 3 by omega),aL (fun h=>by simp at h),show (bif ((true == false) && true) then kK F (((c :: t).getD (1:Int).toNat 0).toNat:Int) else some 0)=some 0 from rfl,aA,aL (fun h=>by simp at h),yJ h35 h2]
     rfl
    match t,hlen,hlen2,h2 with
    | [],_,_,h2=>exact absurd (show 0 < 2 by omega) h2
    | [_],_,_,h2=>exact absurd (show 1 < 2 by omega) h2
    | a :: b :: r,hlen,hlen2,_ =>
     have hl3:((c :: a :: b :: r).length:Int)=(r.length:Int)+3:=by simp; omega
     have hlr:r.length+3=m:=by simpa using hlen2
     rw [aA0 h35]
     rw [decide_eq_false (show ¬ ((c :: a :: b :: r).length:Int) < 3 by omega)]
     rw [aL (fun _=>⟨by omega,by omega⟩),show ((c :: a :: b :: r).getD (1:Int).toNat 0)=a from rfl,show ((c :: a :: b :: r).getD (2:Int).toNat 0)=b from rfl]
     rw [show (bif ((false == false) && true) then kK F (a.toNat:Int) else some 0)=some (aK1 a) from bT4 (by omega) a,aA]
     rw [aL (fun _=>⟨by omega,by omega⟩)]
     simp only [cond_false,xJ]
     unfold pX
     cases hva:qB a with
     | none=>rfl
     | some x =>
      rw [show (bif (((some x).isNone == false) && true) then kK F (b.toNat:Int) else some 0)=some (aK1 b) from bT4 (by omega) b,aA]
      simp only [xJ,aY]
      cases hvb:qB b with
      | none=>rfl
      | some y =>
       have hx:=qW hva
       have hy:=qW hvb
       have hia:aK1 a=(x:Int):=by unfold aK1; rw [hva]
       have hib:aK1 b=(y:Int):=by unfold aK1; rw [hvb]
       simp only [Option.isNone_some,cond_false]
       rw [aL ⟨by omega,by omega⟩,bT4 (by omega),aA,aL ⟨by omega,by omega⟩,bT4 (by omega),aA,hia,hib,aT4 hx hy]
       by_cases hv0:x * 16+y=0
       ·rw [if_pos hv0,show (((x * 16+y:Nat):Int) == 0)=true by rw [beq_iff_eq]; omega]; rfl
       ·rw [if_neg hv0,show (((x * 16+y:Nat):Int) == 0)=false by rw [beq_eq_false_iff_ne]; omega,cond_false,aW]
        simp only
        rw [aL ⟨by omega,by omega⟩,aL (by simp; omega),aL ⟨by omega,by omega,by omega⟩]
        rw [show (((c :: a :: b :: r).drop (3:Int).toNat).take (((c :: a :: b :: r).length:Int).toNat - (3:Int).toNat))=r by
         rw [bM]; show (r.take (r.length+3 - 3))=r; rw [Nat.add_sub_cancel,List.take_length]]
        rw [ih r.length (by omega) n r _ rfl (by omega) (by omega) (by simp; omega),bM,yS]
theorem cF5 (k:Nat):∀ (w l:List UInt8),w.length≤k→nQ w=some l→l.length≤w.length:=by
 induction k with
 | zero =>
  intro w l hw h
  have:w=[]:=List.length_eq_zero_iff.1 (by omega)
  subst this; rw [yL] at h; cases h; simp
 | succ k ih =>
  intro w l hw h
  cases w with
  | nil=>rw [yL] at h; cases h; simp
  | cons c t =>
   simp only [List.length_cons] at hw ⊢
   cases h35:(c.toNat:Int) == 35
   ·cases hc:ctl c
    ·rw [aH5 h35 hc] at h
     cases hn:nQ t with
     | none=>rw [hn] at h; cases h
     | some r =>
      rw [hn] at h; cases h
      have:=ih t r (by omega) hn
      simp; omega
    ·rw [aG4 h35 hc] at h; cases h
   ·match t,hw,h with
    | [],_,h=>rw [yJ h35 (by simp)] at h; cases h
    | [_],_,h=>rw [yJ h35 (by simp)] at h; cases h
    | a :: b :: r,hw,h =>
     simp only [List.length_cons] at hw ⊢
     rw [aA0 h35] at h
     cases hp:pX a b with
     | none=>rw [hp] at h; cases h
     | some v =>
      rw [hp] at h
      by_cases hv:v=0
      ·subst hv; cases h
      ·simp only [if_neg hv] at h
       cases hn:nQ r with
       | none=>rw [hn] at h; cases h
       | some q =>
        rw [hn] at h; cases h
        have:=ih r q (by omega) hn
        simp; omega
/-- What a name is read as: its text and its error. -/
def aI1 (w:List UInt8):List UInt8×Int:=match nQ w with
 | some l=>if l=[] then ([],5) else if 31 < l.length then ([],2) else (l,0)
 | none=>([],5)
theorem cS8 {F:Nat} {s:List UInt8} (hs:s.length≤10000) (hF:20000≤F) {i:Nat} (hi:i≤s.length) :
  gV F s (i:Int)=some ((aI1 (run (s.drop i))).1,(aI1 (run (s.drop i))).2,s,((i+(run (s.drop i)).length:Nat):Int)):=by
 unfold gV
 rw [run_eq hs hF hi,aA]
 have hl:=bQ1 (s.drop i)
 rw [List.length_drop] at hl
 generalize run (s.drop i)=w at *
 have h:=aY8 F (w,s,((i+w.length:Nat):Int)) w (by omega) w.length 0 F [] (by omega) (by omega) (by simp; omega)
 rw [show ((0:Nat):Int)=0 from rfl,List.drop_zero] at h
 rw [h]
 unfold aI1
 cases hn:nQ w with
 | none=>rfl
 | some l =>
  have hll:=cF5 w.length w l (by omega) hn
  simp only [bA2,aW,List.nil_append]
  unfold iG eX
  rw [aA]
  by_cases h0:l=[]
  ·subst h0; rfl
  ·have hpos:0 < l.length:=List.length_pos_iff.2 h0
   rw [if_neg h0,show (((l.length:Int),l).1 == 0)=false by rw [beq_eq_false_iff_ne]; show (l.length:Int)≠0; omega,cond_false,aL (by show l.length≤_; omega)]
   by_cases h31:31 < l.length
   ·rw [if_pos h31,decide_eq_true (show (l.length:Int) > 31 by omega)]; rfl
   ·rw [if_neg h31,decide_eq_false (show ¬ (l.length:Int) > 31 by omega)]; rfl
theorem bE5 {F:Nat} (hF:20000≤F) {w:List UInt8} (hw:w.length≤10000) :
  mK F w=some (if (aI1 w).2=0 then (⟨2,0,(aI1 w).1,0,0⟩,0) else (⟨0,0,[],0,0⟩,(aI1 w).2)):=by
 unfold mK
 rw [bC4 hF w.length F w [] rfl hw (by omega) (by simp; omega)]
 unfold aI1
 cases hn:nQ w with
 | none=>rfl
 | some l =>
  simp only [bA2,aW,List.nil_append]
  by_cases h0:l=[]
  ·subst h0; rfl
  ·rw [if_neg h0,show (l == [])=false by simpa using h0,cond_false]
   by_cases h31:31 < l.length
   ·rw [if_pos h31,decide_eq_true (show (l.length:Int) > 31 by omega)]; rfl
   ·rw [if_neg h31,decide_eq_false (show ¬ (l.length:Int) > 31 by omega)]; rfl
end Go.Vm.ObjM.Lx
