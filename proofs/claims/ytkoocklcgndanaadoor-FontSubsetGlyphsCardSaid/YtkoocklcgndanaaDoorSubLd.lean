/-
  FONT,PLAIN,part 3: the walk into the parts of the glyphs,depth first,finds the depths,or a circle.
-/
import Derived.Test.YtkoocklcgndanaaDoorSubLb
import Derived.Test.YtkoocklcgndanaaDoorSubLc
namespace Go.Vm.SubG
/-- The glyph of a number; its own points; the numbers of its parts. -/
def gly (a0:S_Font) (g:Nat):S_FontGlyph:=a0.f1.getD g (S_FontGlyph.mk 0 [] [])
def fown (a0:S_Font) (g:Nat):Nat:=((gly a0 g).f1.map List.length).sum
def fpar (a0:S_Font) (g:Nat):List Nat:=(gly a0 g).f2.map fun p=>p.f0.toNat
theorem gly_eq (a0:S_Font) (g:Nat):a0.f1.getD g (S_FontGlyph.mk 0 [] [])=gly a0 g:=Eq.trans (id rfl) (id rfl)
structure FontOk (a0:S_Font):Prop where
 len:a0.f1.length≤128
 ok:∀ g < a0.f1.length,GlyOk a0.f1.length (gly a0 g)
abbrev fT (a0:S_Font):Nat→Option (Nat×Nat):=top (fown a0) (fpar a0) a0.f1.length
abbrev fUp (a0:S_Font):Nat→Nat→Prop:=Up (fown a0) (fpar a0)
def Bad (a0:S_Font):Prop:=∃ x < a0.f1.length,∀ k,dep (fown a0) (fpar a0) k x=none
theorem fpar_lt {a0:S_Font} (ok:FontOk a0):∀ g < a0.f1.length,∀ p∈fpar a0 g,p < a0.f1.length:=by
 intro g hg p hp
 obtain ⟨q,hq,rfl⟩:=List.mem_map.1 hp
 have:=(ok.ok g hg).pt q hq
 omega
theorem fT_eq {a0:S_Font} (ok:FontOk a0) {g:Nat} (hg:g < a0.f1.length):fT a0 g=depS (fT a0) (fpar a0 g) 1 (fown a0 g):=top_eq (fpar_lt ok) hg
/-! ### The own points -/
theorem sum_fold:∀ (l:List (List S_FontPoint)) (s:Int),0≤s→(∀ x∈l,x.length≤32)→s+32 * l.length≤100000→l.foldl (fun s x=>IntKind.i64.wrap (s+(x.length:Int))) s=s+((l.map List.length).sum:Nat)
 | [],s,_,_,_=>by simp
 | x :: l,s,h0,hx,hb=>by
  have hx1:=hx x List.mem_cons_self
  simp only [List.length_cons] at hb
  rw [List.foldl_cons,wrap_id (by omega),sum_fold l _ (by omega) (fun y hy=>hx y (List.mem_cons_of_mem _ hy)) (by omega),List.map_cons,List.sum_cons]
  omega
theorem sum_le:∀ (l:List (List S_FontPoint)),(∀ x∈l,x.length≤32)→(l.map List.length).sum≤32 * l.length
 | [],_=>by simp
 | x :: l,hx=>by
  have h1:=hx x List.mem_cons_self
  have h2:=sum_le l fun y hy=>hx y (List.mem_cons_of_mem _ hy)
  rw [List.map_cons,List.sum_cons,List.length_cons]
  omega
theorem fown_le {a0:S_Font} (ok:FontOk a0) {g:Nat} (hg:g < a0.f1.length):fown a0 g≤256:=by
 have:=ok.ok g hg
 have h:=sum_le _ this.con
 have:=this.cons
 unfold fown
 omega
theorem visit_L1 (F:Nat) (hF:9≤F) {a0:S_Font} (ok:FontOk a0) {g:Nat} (hg:g < a0.f1.length):font_visit_L1 F a0 g F 0 0=some ((fown a0 g:Nat):Int):=by
 have hc:=ok.ok g hg
 have h:=range_fold (gly a0 g).f1 (fun n s i=>font_visit_L1 F a0 g n s i) (fun s x=>IntKind.i64.wrap (s+(x.length:Int))) (fun _ _=>True) (fun n s i x hx _=>by
  have hi:=lt_of_get hx
  refine ⟨?_,trivial⟩
  have:=hc.cons
  simp only [font_visit_L1,Int.toNat_natCast,gly_eq,dec_lt hi,cond_true,chk_in hi,lett_eq,getD_of hx,wrap_succ (show i < 9223372036854775807 by omega)])
  (fun n s _=>by simp only [font_visit_L1,Int.toNat_natCast,gly_eq,dec_end,cond_false]) F (by have:=hc.cons; omega) 0 trivial
 rw [h,sum_fold _ 0 (by omega) hc.con (by have:=hc.cons; omega)]
 unfold fown
 simp
/-! ### The states of the nodes -/
def nst (c:List S_font_nest) (x:Nat):S_font_nest:=c.getD x (S_font_nest.mk 0 0 0)
theorem nst_eq (c:List S_font_nest) (x:Nat):c.getD x (S_font_nest.mk 0 0 0)=nst c x:=Eq.trans (id rfl) (id rfl)
theorem getD_set' {α:Type} (c:List α) (g x:Nat) (v d:α):(c.set g v).getD x d=if g=x∧g < c.length then v else c.getD x d:=by
 rw [List.getD_eq_getElem?_getD,List.getD_eq_getElem?_getD,List.getElem?_set]
 by_cases h:g=x
 ·subst h
  by_cases h2:g < c.length
  ·simp [h2]
  ·simp [h2]
 ·simp [h]
theorem nst_set {c:List S_font_nest} {g:Nat} (h:g < c.length) (v:S_font_nest) (x:Nat):nst (c.set g v) x=if g=x then v else nst c x:=by
 unfold nst
 rw [getD_set']
 simp [h]
theorem countP_set' {α:Type} (p:α→Bool) (d:α):∀ (c:List α) (g:Nat) (v:α),g < c.length→(c.set g v).countP p+(if p (c.getD g d) then 1 else 0)=c.countP p+(if p v then 1 else 0)
 | [],_,_,h=>absurd h (Nat.not_lt_zero _)
 | x :: c,0,v,_=>by
  simp only [List.set_cons_zero,List.countP_cons,List.getD_cons_zero]
  omega
 | x :: c,g+1,v,h=>by
  have:=countP_set' p d c g v (by simpa using h)
  simp only [List.set_cons_succ,List.countP_cons,List.getD_cons_succ]
  omega
def isWhite (v:S_font_nest):Bool := !(v.f0 == 1) && !(v.f0 == 2)
def white (c:List S_font_nest):Nat:=c.countP isWhite
structure VInv (a0:S_Font) (c:List S_font_nest):Prop where
 len:c.length=a0.f1.length
 done:∀ x < a0.f1.length,(nst c x).f0=2→∃ d s,fT a0 x=some (d,s)∧nst c x=⟨2,(d:Int),((min s 1048576:Nat):Int)⟩
structure VPost (a0:S_Font) (c c':List S_font_nest):Prop where
 inv:VInv a0 c'
 white:white c'≤white c
 grey:∀ x,(nst c' x).f0=1↔(nst c x).f0=1
 done:∀ x,(nst c x).f0=2→(nst c' x).f0=2
theorem fT_le {a0:S_Font} (ok:FontOk a0) {g d s:Nat} (h:fT a0 g=some (d,s)):d≤128:=by
 have:=dep_le _ _ _ h
 have:=ok.len
 simp only at *
 omega
theorem maxI (m d:Nat) (h:d≤1000):(if (m:Int) < IntKind.i64.wrap ((d:Int)+1) then IntKind.i64.wrap ((d:Int)+1) else (m:Int))=((max m (d+1):Nat):Int):=by
 rw [wrap_id (by omega)]
 split <;> omega
theorem minI (a b C:Nat) (h:C≤2000000000):(if (C:Int) < IntKind.i64.wrap (((min a C:Nat):Int)+((min b C:Nat):Int)) then (C:Int) else IntKind.i64.wrap (((min a C:Nat):Int)+((min b C:Nat):Int)))=((min (a+b) C:Nat):Int):=by
 rw [wrap_id (by omega)]
 split <;> omega
theorem visit_L3 {a0:S_Font} (ok:FontOk a0) (F:Nat) {g:Nat} (hg:g < a0.f1.length) (R:S_Font→Int→List S_font_nest→Option (Int×List S_font_nest)) (k:Nat)
  (hR:∀ (c:List S_font_nest) (p:Nat),p < a0.f1.length→VInv a0 c→white c < k→(∀ x < a0.f1.length,(nst c x).f0=1→fUp a0 x p) →
   ∃ e c',R a0 (p:Int) c=some (e,c')∧((e=13∧Bad a0)∨(e=0∧VPost a0 c c'∧(nst c' p).f0=2)))
  (c0:List S_font_nest) (hgrey:∀ x < a0.f1.length,(nst c0 x).f0=1→x=g∨fUp a0 x g) :
  ∀ (ps:List S_FontPart) (i n M S:Nat) (c:List S_font_nest),(∀ j p,ps[j]? = some p→(gly a0 g).f2[i+j]? = some p)→i+ps.length=(gly a0 g).f2.length→ps.length < n →
   VPost a0 c0 c→white c < k→depS (fT a0) (fpar a0 g) 1 (fown a0 g)=depS (fT a0) (ps.map fun p=>p.f0.toNat) M S →
   (∃ c',font_visit_L3 F a0 g R n M ((min S 1048576:Nat):Int) i c=some (.esc (13,c'))∧Bad a0) ∨
   (∃ M' S' c',font_visit_L3 F a0 g R n M ((min S 1048576:Nat):Int) i c=some (.go ((M':Nat),((min S' 1048576:Nat):Int),c'))∧depS (fT a0) (fpar a0 g) 1 (fown a0 g)=some (M',S')∧VPost a0 c0 c')
 | [],i,n,M,S,c,_,hl,hn,hp,_,hd=>by
  obtain ⟨n,rfl⟩:∃ k,n=k+1:=⟨n - 1,by simp only [List.length_nil] at hn; omega⟩
  right
  simp only [List.length_nil,Nat.add_zero] at hl
  refine ⟨M,S,c,?_,by rw [hd]; rfl,hp⟩
  rw [hl]
  simp only [font_visit_L3,Int.toNat_natCast,gly_eq,dec_end,cond_false]
 | p :: ps,i,n,M,S,c,hx,hl,hn,hp,hw,hd=>by
  obtain ⟨n,rfl⟩:∃ k,n=k+1:=⟨n - 1,by simp only [List.length_cons] at hn; omega⟩
  have hpi:(gly a0 g).f2[i]? = some p:=by simpa using hx 0 p rfl
  have hi:=lt_of_get hpi
  have hgo:=ok.ok g hg
  have hpt:=hgo.pt p (List.mem_of_getElem? hpi)
  obtain ⟨q,hq⟩:∃ q:Nat,p.f0=(q:Int):=⟨p.f0.toNat,by omega⟩
  have hqn:q < a0.f1.length:=by omega
  have hqp:q∈fpar a0 g:=List.mem_map.2 ⟨p,List.mem_of_getElem? hpi,by rw [hq]; rfl⟩
  have hpl:=hgo.parts
  obtain ⟨e,c',hr,hc⟩:=hR c q hqn hp.inv hw (fun x hx h1=>by
   rcases hgrey x hx ((hp.grey x).1 h1) with rfl | h
   ·exact Up.edge hqp
   ·exact h.trans (Up.edge hqp))
  have e1:font_visit_L3 F a0 g R (n+1) M ((min S 1048576:Nat):Int) i c=bif e != 0 then some (.esc (e,c')) else
    chk (0≤(q:Int)∧(q:Int) < (c'.length:Int)) <| chk (0≤(q:Int)∧(q:Int) < (c'.length:Int)) <|
    font_visit_L3 F a0 g R n (if (M:Int) < (IntKind.i64.wrap ((nst c' q).f1+1)) then (IntKind.i64.wrap ((nst c' q).f1+1)) else M)
     (if (1048576:Int) < (IntKind.i64.wrap (((min S 1048576:Nat):Int)+(nst c' q).f2)) then 1048576 else (IntKind.i64.wrap (((min S 1048576:Nat):Int)+(nst c' q).f2))) ((i+1:Nat):Int) c':=by
   simp only [font_visit_L3,Int.toNat_natCast,gly_eq,dec_lt hi,cond_true,chk_in hi,lett_eq,getD_of hpi,hq,hr,call_some,nst_eq,wrap_succ (show i < 9223372036854775807 by omega)]
  rw [e1]
  rcases hc with ⟨rfl,hb⟩ | ⟨rfl,hpost,hq2⟩
  ·exact .inl ⟨c',rfl,hb⟩
  ·obtain ⟨d,s,ht,hv⟩:=hpost.inv.done q hqn hq2
   have hd128:=fT_le ok ht
   rw [hv]
   simp only [bne_self_eq_false,cond_false]
   rw [chk_in (by rw [hpost.inv.len]; exact hqn),chk_in (by rw [hpost.inv.len]; exact hqn),maxI M d (by omega)]
   have hmin:=minI S s 1048576 (by omega)
   simp only [show ((1048576:Nat):Int)=1048576 from rfl] at hmin
   rw [hmin]
   refine visit_L3 ok F hg R k hR c0 hgrey ps (i+1) n (max M (d+1)) (S+s) c' (fun j y hy=>by have:=hx (j+1) y (by simpa using hy); rwa [show i+1+j=i+(j+1) by omega])
    (by simp only [List.length_cons] at hl; omega) (by simp only [List.length_cons] at hn; omega)
    ⟨hpost.inv,Nat.le_trans hpost.white hp.white,fun x=>(hpost.grey x).trans (hp.grey x),fun x h=>hpost.done x (hp.done x h)⟩ (Nat.lt_of_le_of_lt hpost.white hw) ?_
   rw [hd,List.map_cons,depS,hq,Int.toNat_natCast,ht]
theorem visit_ok {a0:S_Font} (ok:FontOk a0) (F:Nat) (hF:1000≤F):∀ (k:Nat) (c:List S_font_nest) (g:Nat),g < a0.f1.length→VInv a0 c→white c < k→(∀ x < a0.f1.length,(nst c x).f0=1→fUp a0 x g) →
  ∃ e c',font_visit_fuel F k a0 (g:Int) c=some (e,c')∧((e=13∧Bad a0)∨(e=0∧VPost a0 c c'∧(nst c' g).f0=2))
 | 0,_,_,_,_,h,_=>absurd h (Nat.not_lt_zero _)
 | k+1,c,g,hg,hinv,hw,hgrey=>by
  have hgc:g < c.length:=by rw [hinv.len]; exact hg
  have hgo:=ok.ok g hg
  have hpl:=hgo.parts
  rw [font_visit_fuel,font_visit_body]
  simp only [Int.toNat_natCast,nst_eq,chk_in hgc]
  by_cases h1:(nst c g).f0=1
  ·exact ⟨13,c,by rw [h1]; rfl,.inl ⟨rfl,g,hg,Up.irrefl (hgrey g hg h1)⟩⟩
  ·by_cases h2:(nst c g).f0=2
   ·exact ⟨0,c,by rw [h2]; rfl,.inr ⟨rfl,⟨hinv,Nat.le_refl _,fun _=>Iff.rfl,fun _ h=>h⟩,h2⟩⟩
   ·have b1:((nst c g).f0 == 1)=false:=by simpa using h1
    have b2:((nst c g).f0 == 2)=false:=by simpa using h2
    rw [b1,b2,cond_false,cond_false,chk_in hg,visit_L1 F (by omega) ok hg,call_some,chk_in hg]
    -- the node becomes grey
    have hc1:∀ x,nst (c.set g ⟨1,(nst c g).f1,(nst c g).f2⟩) x=if g=x then ⟨1,(nst c g).f1,(nst c g).f2⟩ else nst c x:=fun x=>nst_set hgc _ x
    have hw1:white (c.set g ⟨1,(nst c g).f1,(nst c g).f2⟩)+1=white c:=by
     have:=countP_set' isWhite (S_font_nest.mk 0 0 0) c g ⟨1,(nst c g).f1,(nst c g).f2⟩ hgc
     rw [nst_eq,show isWhite (nst c g)=true by unfold isWhite; rw [b1,b2]; rfl,show isWhite ⟨1,(nst c g).f1,(nst c g).f2⟩=false from rfl] at this
     simpa [white] using this
    have hinv1:VInv a0 (c.set g ⟨1,(nst c g).f1,(nst c g).f2⟩):=⟨by rw [List.length_set]; exact hinv.len,fun x hx h=>by
     rw [hc1] at h ⊢
     by_cases hgx:g=x
     ·rw [if_pos hgx] at h; cases h
     ·rw [if_neg hgx] at h ⊢; exact hinv.done x hx h⟩
    have hm:=visit_L3 ok F hg (font_visit_fuel F k) k (fun c p hp hi hw hgr=>visit_ok ok F hF k c p hp hi hw hgr) (c.set g ⟨1,(nst c g).f1,(nst c g).f2⟩) (fun x hx h=>by
      rw [hc1] at h
      by_cases hgx:g=x
      ·exact .inl hgx.symm
      ·rw [if_neg hgx] at h; exact .inr (hgrey x hx h)) (gly a0 g).f2 0 F 1 (fown a0 g) (c.set g ⟨1,(nst c g).f1,(nst c g).f2⟩) (fun j p h=>by simpa using h) (by simp) (by omega)
      ⟨hinv1,Nat.le_refl _,fun _=>Iff.rfl,fun _ h=>h⟩ (by omega) rfl
    rw [show ((min (fown a0 g) 1048576:Nat):Int)=((fown a0 g:Nat):Int) by have:=fown_le ok hg; omega] at hm
    rcases hm with ⟨c',hr,hb⟩ | ⟨M',S',c',hr,hd,hpost⟩
    ·simp only [show ((1:Nat):Int)=1 from rfl,show ((0:Nat):Int)=0 from rfl] at hr
     rw [hr]
     exact ⟨13,c',rfl,.inl ⟨rfl,hb⟩⟩
    ·simp only [show ((1:Nat):Int)=1 from rfl,show ((0:Nat):Int)=0 from rfl] at hr
     rw [hr,callE_go]
     have hgc':g < c'.length:=by rw [hpost.inv.len]; exact hg
     simp only [chk_in hgc']
     have hc2:∀ x,nst (c'.set g ⟨2,(M':Int),((min S' 1048576:Nat):Int)⟩) x=if g=x then ⟨2,(M':Int),((min S' 1048576:Nat):Int)⟩ else nst c' x:=fun x=>nst_set hgc' _ x
     have hg1:(nst c' g).f0=1:=(hpost.grey g).2 (by rw [hc1,if_pos rfl])
     refine ⟨0,_,rfl,.inr ⟨rfl,⟨⟨by rw [List.length_set]; exact hpost.inv.len,fun x hx h=>?_⟩,?_,fun x=>?_,fun x h=>?_⟩,by rw [hc2,if_pos rfl]⟩⟩
     ·rw [hc2] at h ⊢
      by_cases hgx:g=x
      ·subst hgx
       rw [if_pos rfl]
       exact ⟨M',S',by rw [fT_eq ok hg]; exact hd,rfl⟩
      ·rw [if_neg hgx] at h ⊢; exact hpost.inv.done x hx h
     ·have:=countP_set' isWhite (S_font_nest.mk 0 0 0) c' g ⟨2,(M':Int),((min S' 1048576:Nat):Int)⟩ hgc'
      rw [nst_eq,show isWhite (nst c' g)=false by unfold isWhite; rw [hg1]; rfl,show isWhite ⟨2,(M':Int),((min S' 1048576:Nat):Int)⟩=false from rfl] at this
      have h3:=hpost.white
      unfold white at hw1 h3 ⊢
      simp only [Bool.false_eq_true,if_false,Nat.add_zero] at this
      omega
     ·rw [hc2]
      by_cases hgx:g=x
      ·subst hgx
       rw [if_pos rfl]
       exact Iff.intro (fun h=>by cases h) (fun h=>absurd h h1)
      ·rw [if_neg hgx,hpost.grey x,hc1,if_neg hgx]
     ·rw [hc2]
      by_cases hgx:g=x
      ·rw [if_pos hgx]
      ·rw [if_neg hgx]
       exact hpost.done x (by rw [hc1,if_neg hgx]; exact h)
theorem check_L3 {a0:S_Font} (ok:FontOk a0) (F:Nat) (hF:1000≤F):∀ (j i n:Nat) (c:List S_font_nest),i+j=a0.f1.length→j < n→VInv a0 c→(∀ x,(nst c x).f0≠1)→(∀ x < i,(nst c x).f0=2) →
  (font_Check_L3 F a0 n c i=some (.esc 13)∧Bad a0)∨∃ c',font_Check_L3 F a0 n c i=some (.go c')∧VInv a0 c'∧∀ x < a0.f1.length,(nst c' x).f0=2
 | 0,i,n,c,hl,hn,hinv,_,hd=>by
  obtain ⟨n,rfl⟩:∃ k,n=k+1:=⟨n - 1,by omega⟩
  obtain rfl:i=a0.f1.length:=by omega
  exact .inr ⟨c,by simp only [font_Check_L3,dec_end,cond_false],hinv,hd⟩
 | j+1,i,n,c,hl,hn,hinv,hg,hd=>by
  obtain ⟨n,rfl⟩:∃ k,n=k+1:=⟨n - 1,by omega⟩
  have hi:i < a0.f1.length:=by omega
  have hlen:=ok.len
  obtain ⟨e,c',hr,hc⟩:=visit_ok ok F hF F c i hi hinv (by
   have:white c≤c.length:=List.countP_le_length
   rw [hinv.len] at this
   omega) (fun x _ h=>absurd h (hg x))
  have e1:font_Check_L3 F a0 (n+1) c i=bif e != 0 then some (.esc e) else font_Check_L3 F a0 n c' ((i+1:Nat):Int):=by
   simp only [font_Check_L3,dec_lt hi,cond_true,font_visit,hr,call_some,wrap_succ (show i < 9223372036854775807 by omega)]
  rw [e1]
  rcases hc with ⟨rfl,hb⟩ | ⟨rfl,hpost,hi2⟩
  ·exact .inl ⟨rfl,hb⟩
  ·exact check_L3 ok F hF j (i+1) n c' (by omega) (by omega) hpost.inv (fun x h=>hg x ((hpost.grey x).1 h)) (fun x hx=>by
    by_cases h:x=i
    ·subst h; exact hi2
    ·exact hpost.done x (hd x (by omega)))
/-- The walk from every glyph. -/
theorem visits {a0:S_Font} (ok:FontOk a0) (F:Nat) (hF:1000≤F) :
  (font_Check_L3 F a0 F (List.replicate a0.f1.length (S_font_nest.mk 0 0 0)) 0=some (.esc 13)∧∃ x < a0.f1.length,fT a0 x=none) ∨
  ∃ c,font_Check_L3 F a0 F (List.replicate a0.f1.length (S_font_nest.mk 0 0 0)) 0=some (.go c)∧c.length=a0.f1.length∧∀ x < a0.f1.length,∃ d s,fT a0 x=some (d,s)∧nst c x=⟨2,(d:Int),((min s 1048576:Nat):Int)⟩:=by
 have hr:∀ x,nst (List.replicate a0.f1.length (S_font_nest.mk 0 0 0)) x=S_font_nest.mk 0 0 0:=by
  intro x
  unfold nst
  rw [List.getD_eq_getElem?_getD,List.getElem?_replicate]
  split <;> rfl
 have hlen:=ok.len
 rcases check_L3 ok F hF a0.f1.length 0 F (List.replicate a0.f1.length (S_font_nest.mk 0 0 0)) (by omega) (by omega) ⟨List.length_replicate,fun x _ h=>by rw [hr] at h; cases h⟩ (fun x h=>by rw [hr] at h; cases h) (fun x h=>by omega) with ⟨h,x,hx,hb⟩ | ⟨c,h,hinv,hd⟩
 ·exact .inl ⟨h,x,hx,hb _⟩
 ·exact .inr ⟨c,h,hinv.len,fun x hx=>hinv.done x hx (hd x hx)⟩
end Go.Vm.SubG
