/-
  TICKETS,PLAIN,part 2: the tokens of an object.
-/
import Derived.Test.YtldmbabgcdmjcaaGreatDoorObjLe
namespace Go.Vm.ObjM
/-- Every token can be printed. -/
def sG (F:Nat) (l:List aD):Prop:=∀ t∈l,TOk F t
theorem sG.app {F:Nat} {l:List aD} (h:sG F l) {t:aD} (ht:TOk F t):sG F (l++[t]):=by
 intro x hx
 rcases List.mem_append.1 hx with hx | hx
 ·exact h x hx
 ·rw [List.mem_singleton.1 hx]
  exact ht
/-- No node of an object has an error. -/
inductive OOk (F:Nat):aG→Prop
 | mk {o:aG} (h:aQ2 F o) (hr:o.f0=5→0 < o.f1∧o.f1 < 256) (hk:∀ x∈o.f4,OOk F x):OOk F o
/-- The number of a reference that is printed. -/
theorem cF1 {F:Nat} {v:Int} {t:List UInt8} (h:bD F ⟨4,v,[],0,0⟩=some (t,0)):0 < v∧v < 256:=by
 by_cases h1:v < 1
 ·exfalso
  have:bD F ⟨4,v,[],0,0⟩=some ([],3):=by simp [bD,bQ,aA,aW,bV,aY,h1]
  rw [this] at h
  cases h
 ·by_cases h2:v > 255
  ·exfalso
   have:bD F ⟨4,v,[],0,0⟩=some ([],3):=by simp [bD,bQ,aA,aW,bV,aY,h1,h2]
   rw [this] at h
   cases h
  ·omega
mutual
/-- How many nodes an object has. -/
def sz:aG→Nat
 | ⟨_,_,_,_,l⟩=>1+szs l
def szs:List aG→Nat
 | []=>0
 | x :: l=>sz x+szs l
end
theorem bX8:∀ o,sz o=1+szs o.f4
 | ⟨_,_,_,_,_⟩=>by simp only [sz]
/-- The program and the reference agree on the tokens of an object. -/
def yG (F:Nat) (p:Option (Int×List aD×Int)) (r:Option (List aD×Int×Int)) (len c:Nat) (Q:Nat→Prop):Prop :=
 (∃ e l' k' k'',e≠0∧p=some (e,l',k')∧r=some ([],e,k'')) ∨
 (∃ (l':List aD) (k':Nat),p=some (0,l',(k':Int))∧r=some (l',0,(k':Int))∧sG F l'∧c < k'∧k'≤4096∧l'.length+1≤len+3 * (k' - c)∧Q k')
abbrev ob0:aG:=aG.mk 0 0 [] [] []
theorem cQ7 {F:Nat} {o:aG} (ho:aQ2 F o) {d len c:Nat} (hd:d≤12) (hlen:len≤3 * c) {f:aG→Int→List aD→Int→Option (Int×List aD×Int)} {g:List aD→aG→Int→Int→Option (List aD×Int×Int)}
  (ih:∀ x∈o.f4,∀ (l:List aD) (c:Nat),c≤4096→l.length≤3 * c→sG F l→yG F (f x ((d+1:Nat):Int) l c) (g l x ((d+1:Nat):Int) c) l.length c (fun k=>OOk F x∧k=c+sz x)) :
  ∀ (m i n:Nat) (l:List aD) (v:Nat),i+m=o.f4.length→m < n→sG F l→c < v→v≤4096→l.length+2≤len+3 * (v - c) →
   (∃ e l' k' k'',e≠0∧bT F o d f n i l v=some (.esc (e,l',k'))∧dF F o d g n l i v=some (.esc ([],e,k''))) ∨
   (∃ (l':List aD) (k':Nat),bT F o d f n i l v=some (.go (l',(k':Int)))∧dF F o d g n l i v=some (.go (l',(k':Int)))∧sG F l'∧c < k'∧k'≤4096∧l'.length+2≤len+3 * (k' - c)∧(∀ j,i≤j→j < o.f4.length→OOk F (o.f4.getD j ob0))∧k'=v+szs (o.f4.drop i)):=by
 intro m
 induction m with
 | zero =>
  intro i n l v h hn h1 h2 h3 h4
  obtain ⟨n,rfl⟩:∃ k,n=k+1:=⟨n - 1,by omega⟩
  obtain rfl:i=o.f4.length:=by omega
  refine .inr ⟨l,v,?_,?_,h1,h2,h3,h4,fun j h1 h2=>by omega,by rw [List.drop_length]; rfl⟩
  ·rw [bT,fG,cond_false]
  ·rw [dF,fG,cond_false]
 | succ m ihm =>
  intro i n l v h hn h1 h2 h3 h4
  obtain ⟨n,rfl⟩:∃ k,n=k+1:=⟨n - 1,by omega⟩
  have hi:i < o.f4.length:=by omega
  have hm:=ho.many
  have hx:o.f4.getD i ob0∈o.f4:=by
   rw [List.getD_eq_getElem?_getD,List.getElem?_eq_getElem hi]
   exact List.getElem_mem hi
  -- the key
  obtain ⟨l2,hl2,hok2,hp,hr⟩:∃ l2:List aD,l2.length≤l.length+1∧sG F l2 ∧
    (bif (o.f0 == (7:Int)) then chk (0≤(i:Int)∧(i:Int) < o.f3.length) <| chk (l.length+([(aD.mk (2:Int) 0 (o.f3.getD (i:Int).toNat []) 0 0)]).length≤4294967296) <| some (l++([(aD.mk (2:Int) 0 (o.f3.getD (i:Int).toNat []) 0 0)])) else some l)=some l2∧l.length≤l2.length:=by
   by_cases h7:o.f0=7
   ·have hk:=ho.ks h7
    have hb:(o.f0 == 7)=true:=by simpa using h7
    have hi3:i < o.f3.length:=by omega
    refine ⟨l++[aD.mk 2 0 (o.f3.getD i []) 0 0],by simp,h1.app (ho.names _ ?_),?_,by simp⟩
    ·rw [List.getD_eq_getElem?_getD,List.getElem?_eq_getElem hi3]
     exact List.getElem_mem hi3
    ·rw [hb,cond_true,eD hi3,aL (by simp; omega)]
     rfl
   ·have hb:(o.f0 == 7)=false:=by simpa using h7
    refine ⟨l,by omega,h1,?_,Nat.le_refl _⟩
    rw [hb,cond_false]
  have hw:IntKind.i64.wrap ((d:Int)+1)=((d+1:Nat):Int):=bS (by omega)
  have hw2:IntKind.i64.wrap ((i:Int)+1)=((i+1:Nat):Int):=bS (by omega)
  rw [bT,dF,dec_lt hi,cond_true,eD hi,cond_true,eD hi]
  rw [hp,aA,aA,hw,hw2]
  rcases ih _ hx l2 v h3 (by omega) hok2 with ⟨e,l',k',k'',h0,g1,g2⟩ | ⟨l',k',g1,g2,g3,g4,g5,g6,g7,g8⟩
  ·have hne:(e != 0)=true:=by simpa using h0
   refine .inl ⟨e,l',k',k'',h0,?_,?_⟩
   ·change call (f (o.f4.getD i ob0) ((d+1:Nat):Int) l2 v) _=_
    rw [g1,aA]
    simp only [hne,cond_true]
   ·change call (g l2 (o.f4.getD i ob0) ((d+1:Nat):Int) v) _=_
    rw [g2,aA]
    simp only [hne,cond_true]
  ·have e1:(call (f (o.f4.getD i ob0) ((d+1:Nat):Int) l2 v) fun y1=>bif (y1.1 != (0:Int)) then some (Out.esc (y1.1,y1.2.1,y1.2.2)) else bT F o d f n ((i+1:Nat):Int) y1.2.1 y1.2.2)=bT F o d f n ((i+1:Nat):Int) l' k':=by
    rw [g1,aA,bne_self_eq_false,cond_false]
   have e2:(call (g l2 (o.f4.getD i ob0) ((d+1:Nat):Int) v) fun y1=>bif (y1.2.1 != (0:Int)) then some (Out.esc (([]:List aD),y1.2.1,y1.2.2)) else dF F o d g n y1.1 ((i+1:Nat):Int) y1.2.2)=dF F o d g n l' ((i+1:Nat):Int) k':=by
    rw [g2,aA,bne_self_eq_false,cond_false]
   change (∃ e l'' k' k'',e≠0∧(call (f (o.f4.getD i ob0) ((d+1:Nat):Int) l2 v) fun y1=>bif (y1.1 != (0:Int)) then some (Out.esc (y1.1,y1.2.1,y1.2.2)) else bT F o d f n ((i+1:Nat):Int) y1.2.1 y1.2.2)=some (.esc (e,l'',k'))∧(call (g l2 (o.f4.getD i ob0) ((d+1:Nat):Int) v) fun y1=>bif (y1.2.1 != (0:Int)) then some (Out.esc (([]:List aD),y1.2.1,y1.2.2)) else dF F o d g n y1.1 ((i+1:Nat):Int) y1.2.2)=some (.esc ([],e,k''))) ∨
    (∃ (l'':List aD) (k':Nat),(call (f (o.f4.getD i ob0) ((d+1:Nat):Int) l2 v) fun y1=>bif (y1.1 != (0:Int)) then some (Out.esc (y1.1,y1.2.1,y1.2.2)) else bT F o d f n ((i+1:Nat):Int) y1.2.1 y1.2.2)=some (.go (l'',(k':Int)))∧(call (g l2 (o.f4.getD i ob0) ((d+1:Nat):Int) v) fun y1=>bif (y1.2.1 != (0:Int)) then some (Out.esc (([]:List aD),y1.2.1,y1.2.2)) else dF F o d g n y1.1 ((i+1:Nat):Int) y1.2.2)=some (.go (l'',(k':Int)))∧sG F l''∧c < k'∧k'≤4096∧l''.length+2≤len+3 * (k' - c)∧(∀ j,i≤j→j < o.f4.length→OOk F (o.f4.getD j ob0))∧k'=v+szs (o.f4.drop i))
   rw [e1,e2]
   rcases ihm (i+1) n l' k' (by omega) (by omega) g3 (by omega) g5 (by omega) with h | ⟨a1,a2,a3,a4,a5,a6,a7,a8,a9,a10⟩
   ·exact .inl h
   ·refine .inr ⟨a1,a2,a3,a4,a5,a6,a7,a8,fun j hj1 hj2=>?_,?_⟩
    ·by_cases hji:j=i
     ·rw [hji]; exact g7
     ·exact a9 j (by omega) hj2
    ·have hd:o.f4.drop i=o.f4.getD i ob0 :: o.f4.drop (i+1):=by
      rw [List.drop_eq_getElem_cons hi]
      simp [List.getD_eq_getElem?_getD,hi]
     rw [hd,szs,a10,g8]
     omega
theorem aB2 (F:Nat) (k:Int) (hk:k=6∨k=7∨k=8∨k=9):TOk F ⟨k,0,[],0,0⟩:=by
 obtain ⟨x,h1,h2,h3⟩:=bF9 (F:=F) k hk 0 [] 0 0
 have:∃ s,bD F ⟨k,0,[],0,0⟩=some (s,0):=by
  rcases hk with rfl | rfl | rfl | rfl <;> exact ⟨_,rfl⟩
 obtain ⟨s,hs⟩:=this
 rw [hs] at h1
 cases h1
 exact ⟨s,hs,h2,h3⟩
theorem cA8 {F:Nat} (hF:4294967300≤F) {o:aG} (ho:aQ2 F o) {d c:Nat} {l:List aD} (hd:d≤12) (hlen:l.length≤3 * c) (hok:sG F l) (hc2:c+1≤4096) {f:aG→Int→List aD→Int→Option (Int×List aD×Int)} {g:List aD→aG→Int→Int→Option (List aD×Int×Int)}
  (ih:∀ x∈o.f4,∀ (l:List aD) (c:Nat),c≤4096→l.length≤3 * c→sG F l→yG F (f x ((d+1:Nat):Int) l c) (g l x ((d+1:Nat):Int) c) l.length c (fun k=>OOk F x∧k=c+sz x))
  {b e:Int} (hb:(o.f0=6∧b=6∧e=7)∨(o.f0=7∧b=8∧e=9)) :
  yG F (fI F f o d l ((c+1:Nat):Int))
   (dA (dF F o d g F (l++([(aD.mk b 0 [] 0 0)])) (0:Int) ((c+1:Nat):Int)) (fun e=>some e) fun (v8,v9)=>chk (v8.length+([(aD.mk e 0 [] 0 0)]).length≤4294967296) <| some ((v8++([(aD.mk e 0 [] 0 0)])),(0:Int),v9)) l.length c (fun k=>OOk F o∧k=c+sz o):=by
 have hm:=ho.many
 have hbk:b=6∨b=7∨b=8∨b=9:=by omega
 have hek:e=6∨e=7∨e=8∨e=9:=by omega
 obtain ⟨sb,hb1,hb2,hb3⟩:=aB2 F b hbk
 obtain ⟨se,he1,he2,he3⟩:=aB2 F e hek
 have hcond:(bif (o.f0 == (7:Int)) then some ((8:Int),(9:Int)) else some ((6:Int),(7:Int)))=some (b,e):=by
  rcases hb with ⟨h1,rfl,rfl⟩ | ⟨h1,rfl,rfl⟩ <;> rw [h1] <;> rfl
 unfold fI
 rw [hcond,aA]
 simp only
 rw [aL (by rw [List.length_singleton]; omega)]
 rcases cQ7 ho hd hlen ih o.f4.length 0 F (l++[aD.mk b 0 [] 0 0]) (c+1) (by omega) (by omega) (hok.app ⟨sb,hb1,hb2,hb3⟩) (by omega) hc2 (by rw [List.length_append,List.length_singleton]; omega) with ⟨e',l',k',k'',h0,g1,g2⟩ | ⟨l',k',g1,g2,g3,g4,g5,g6,g7,g8⟩
 ·rw [Int.natCast_zero] at g1 g2
  rw [g1,g2]
  exact .inl ⟨e',l',k',k'',h0,rfl,rfl⟩
 ·rw [Int.natCast_zero] at g1 g2
  rw [g1,g2,aW,aW]
  simp only
  have hck:l'.length+[aD.mk e 0 [] 0 0].length≤4294967296:=by rw [List.length_singleton]; omega
  rw [aL hck,aL hck]
  refine .inr ⟨_,k',rfl,rfl,g3.app ⟨se,he1,he2,he3⟩,g4,g5,by rw [List.length_append,List.length_singleton]; omega,.mk ho (fun h5=>by rcases hb with ⟨h1,_⟩ | ⟨h1,_⟩ <;> (rw [h1] at h5; cases h5)) fun x hx=>?_,by rw [bX8,g8,List.drop_zero]; omega⟩
  obtain ⟨j,hj,rfl⟩:=List.getElem_of_mem hx
  have:=g7 j (by omega) hj
  simpa [List.getD_eq_getElem?_getD,hj] using this
theorem aN9 {F:Nat} (hF:4294967300≤F) {o:aG} (ho:aQ2 F o) {d c:Nat} {l:List aD} (hd:d≤12) (hlen:l.length≤3 * c) (hok:sG F l) (hc2:c+1≤4096) {f:aG→Int→List aD→Int→Option (Int×List aD×Int)} {g:List aD→aG→Int→Int→Option (List aD×Int×Int)}
  (ih:∀ x∈o.f4,∀ (l:List aD) (c:Nat),c≤4096→l.length≤3 * c→sG F l→yG F (f x ((d+1:Nat):Int) l c) (g l x ((d+1:Nat):Int) c) l.length c (fun k=>OOk F x∧k=c+sz x))
  {b e:Int} (hb:(o.f0=6∧b=6∧e=7)∨(o.f0=7∧b=8∧e=9)) :
  yG F (dA (call (fI F f o d l ((c+1:Nat):Int)) fun y3=>some (Out.esc (σ:=List UInt8×Int×Int) (y3.1,y3.2.1,y3.2.2))) (fun e=>some e) fun (v1,v2,v3)=>chk (l.length+([(aD.mk v2 v3 v1 0 0)]).length≤4294967296) <| call (bD F (aD.mk v2 v3 v1 0 0)) fun y4=>some (y4.2,(l++([(aD.mk v2 v3 v1 0 0)])),((c+1:Nat):Int)))
   (call (bI F (aD.mk b 0 [] 0 0)) fun y3=>bif (y3.2 != (0:Int)) then some (([]:List aD),y3.2,((c+1:Nat):Int)) else chk (l.length+([(aD.mk b 0 [] 0 0)]).length≤4294967296) <| dA (dF F o d g F (l++([(aD.mk b 0 [] 0 0)])) (0:Int) ((c+1:Nat):Int)) (fun e=>some e) fun (v8,v9)=>chk (v8.length+([(aD.mk e 0 [] 0 0)]).length≤4294967296) <| some ((v8++([(aD.mk e 0 [] 0 0)])),(0:Int),v9)) l.length c (fun k=>OOk F o∧k=c+sz o):=by
 have key:=cA8 hF ho hd hlen hok hc2 ih hb
 have hbk:b=6∨b=7∨b=8∨b=9:=by omega
 obtain ⟨sb,hb1,hb2,hb3⟩:=aB2 F b hbk
 rw [hb2,aA,bne_self_eq_false,cond_false,aL (by rw [List.length_singleton]; omega)]
 generalize fI F f o d l ((c+1:Nat):Int)=p at key ⊢
 cases p <;> exact key
theorem nk {k j v:Int} {s:List UInt8} {ks:List (List UInt8)} {l:List aG} (h:k≠j):(aG.mk k v s ks l).f0≠j:=h
theorem add_eq {F:Nat} (hF:4294967300≤F) (hF2:maxLen < F):∀ (j d n:Nat) (o:aG) (l:List aD) (c:Nat),d+j=13→j < n→Sm o→c≤4096→l.length≤3 * c→sG F l →
  yG F (dW F n o d l c) (fT F n l o d c) l.length c (fun k=>OOk F o∧k=c+sz o):=by
 intro j
 induction j with
 | zero =>
  intro d n o l c hd hn hs hc hl hok
  obtain ⟨n,rfl⟩:∃ k,n=k+1:=⟨n - 1,by omega⟩
  obtain rfl:d=13:=by omega
  change yG F (eV F (dW F n) o (13:Nat) l c) (gT F (fT F n) l o (13:Nat) c) _ _ _
  unfold eV gT
  rw [bS (by omega)]
  obtain ⟨e,g1,g2,g3⟩:=bU8 hF hF2 hs (d:=((13:Nat):Int))
  by_cases hcc:decide (((c+1:Nat):Int) > 4096)=true
  ·rw [hcc]
   exact .inl ⟨2,l,_,_,by decide,rfl,rfl⟩
  rw [Bool.not_eq_true] at hcc
  rw [hcc,cond_false,cond_false,g1,g2,aA,aA]
  have hne:(e != 0)=true:=by
   rw [bne_iff_ne]
   intro h
   have:=(g3 h).2
   omega
  rw [hne]
  exact .inl ⟨e,l,_,_,by simpa using hne,rfl,rfl⟩
 | succ j ih =>
  intro d n o l c hd hn hs hc hl hok
  obtain ⟨n,rfl⟩:∃ k,n=k+1:=⟨n - 1,by omega⟩
  change yG F (eV F (dW F n) o d l c) (gT F (fT F n) l o d c) _ _ _
  have hkids:∀ x∈o.f4,∀ (l:List aD) (c:Nat),c≤4096→l.length≤3 * c→sG F l→yG F (dW F n x ((d+1:Nat):Int) l c) (fT F n l x ((d+1:Nat):Int) c) l.length c (fun k=>OOk F x∧k=c+sz x) :=
   fun x hx l c h1 h2 h3=>ih (d+1) n x l c (by omega) (by omega) (hs.l x hx) h1 h2 h3
  generalize dW F n=f at hkids
  generalize fT F n=g at hkids
  unfold eV gT
  rw [bS (by omega)]
  obtain ⟨e,g1,g2,g3⟩:=bU8 hF hF2 hs (d:=(d:Int))
  by_cases hcc:decide (((c+1:Nat):Int) > 4096)=true
  ·rw [hcc]
   exact .inl ⟨2,l,_,_,by decide,rfl,rfl⟩
  rw [Bool.not_eq_true] at hcc
  rw [hcc,cond_false,cond_false,g1,g2,aA,aA]
  by_cases he:e=0
  case neg =>
   have hne:(e != 0)=true:=by simpa using he
   rw [hne]
   exact .inl ⟨e,l,_,_,he,rfl,rfl⟩
  subst he
  rw [bne_self_eq_false,cond_false,cond_false]
  obtain ⟨ho,hd12⟩:=g3 rfl
  simp only [decide_eq_false_iff_not] at hcc
  have hc2:c+1≤4096:=by omega
  -- a leaf
  have leaf:∀ tok:aD,tok.f2.length≤maxLen→o.f0≠6→o.f0≠7→(o.f0=5→∀ t,bD F tok=some (t,0)→0 < o.f1∧o.f1 < 256) →
    yG F (chk (l.length+([tok]).length≤4294967296) <| call (bD F tok) fun y4=>some (y4.2,(l++([tok])),((c+1:Nat):Int)))
     (call (bI F tok) fun y3=>bif (y3.2 != (0:Int)) then some ([],y3.2,((c+1:Nat):Int)) else chk (l.length+([tok]).length≤4294967296) <| some ((l++([tok])),(0:Int),((c+1:Nat):Int))) l.length c (fun k=>OOk F o∧k=c+sz o):=by
   intro tok ht h6 h7 href
   obtain ⟨⟨t,e⟩,q1,q2,q3⟩:=both hF tok ht (by omega)
   have hck:l.length+[tok].length≤4294967296:=by simp; omega
   rw [aL hck,q1,q2,aA,aA,aL hck]
   by_cases he:e=0
   ·subst he
    rw [bne_self_eq_false,cond_false]
    exact .inr ⟨_,c+1,rfl,rfl,hok.app ⟨t,q1,q2,q3⟩,by omega,hc2,by rw [List.length_append]; simp only [List.length_singleton]; omega,.mk ho (fun h5=>href h5 t q1) (by rw [ho.l h6 h7]; simp),by rw [bX8,ho.l h6 h7]; rfl⟩
   ·have hne:(e != 0)=true:=by simpa using he
    rw [hne]
    exact .inl ⟨e,_,_,_,he,rfl,rfl⟩
  obtain ⟨k,v,s,ks,kl⟩:=o
  have hs2:=hs.s
  have b1:=ho.k
  have b2:=ho.v
  have b3:=ho.s
  have b4:=ho.b
  simp only at hs2 b1 b2 b3 b4
  have hk8:k=0∨k=1∨k=2∨k=3∨k=4∨k=5∨k=6∨k=7:=by omega
  have hnil:([]:List UInt8).length≤maxLen:=Nat.zero_le _
  rcases hk8 with rfl | rfl | rfl | rfl | rfl | rfl | rfl | rfl
  ·have hv:=b2 (by decide) (by decide) (by decide)
   have hss:=b3 (by decide) (by decide)
   subst hv hss
   exact leaf ⟨5,0,[110,117,108,108],0,0⟩ (by decide) (nk (by decide)) (nk (by decide)) (fun h5=>absurd h5 (nk (by decide)))
  ·have hss:=b3 (by decide) (by decide)
   subst hss
   rcases b4 rfl with rfl | rfl
   ·exact leaf ⟨5,0,[102,97,108,115,101],0,0⟩ (by decide) (nk (by decide)) (nk (by decide)) (fun h5=>absurd h5 (nk (by decide)))
   ·exact leaf ⟨5,0,[116,114,117,101],0,0⟩ (by decide) (nk (by decide)) (nk (by decide)) (fun h5=>absurd h5 (nk (by decide)))
  ·have hss:=b3 (by decide) (by decide)
   subst hss
   exact leaf ⟨1,v,[],0,0⟩ hnil (nk (by decide)) (nk (by decide)) (fun h5=>absurd h5 (nk (by decide)))
  ·have hv:=b2 (by decide) (by decide) (by decide)
   subst hv
   exact leaf ⟨2,0,s,0,0⟩ hs2 (nk (by decide)) (nk (by decide)) (fun h5=>absurd h5 (nk (by decide)))
  ·have hv:=b2 (by decide) (by decide) (by decide)
   subst hv
   exact leaf ⟨3,0,s,0,0⟩ hs2 (nk (by decide)) (nk (by decide)) (fun h5=>absurd h5 (nk (by decide)))
  ·have hss:=b3 (by decide) (by decide)
   subst hss
   exact leaf ⟨4,v,[],0,0⟩ hnil (nk (by decide)) (nk (by decide)) (fun _ t h=>cF1 h)
  ·have hv:=b2 (by decide) (by decide) (by decide)
   have hss:=b3 (by decide) (by decide)
   subst hv hss
   exact aN9 hF ho (show d≤12 by omega) hl hok hc2 hkids (b:=6) (e:=7) (.inl ⟨rfl,rfl,rfl⟩)
  ·have hv:=b2 (by decide) (by decide) (by decide)
   have hss:=b3 (by decide) (by decide)
   subst hv hss
   exact aN9 hF ho (show d≤12 by omega) hl hok hc2 hkids (b:=8) (e:=9) (.inr ⟨rfl,rfl,rfl⟩)
end Go.Vm.ObjM
