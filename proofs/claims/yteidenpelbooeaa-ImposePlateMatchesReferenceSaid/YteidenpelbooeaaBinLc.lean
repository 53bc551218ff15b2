/-
  FOLD,PLAIN,part 3: a fold on the table.
-/
import Derived.Test.YteidenpelbooeaaBinLb
namespace Go.Vm.BinG
theorem ref3_Sheet_Fold_L0_eq (F:Nat) (c7:List Int) {H:Int} (hc:∀ v∈c7,-H≤v∧v≤H) (hlen:c7.length≤1000) :
    ∀ (m i n:Nat) (lo hi:Int),i+m=c7.length→m < n → -H≤lo→hi≤H →
      ∃ lo' hi',ref3_Sheet_Fold_L0 F c7 n lo hi i=some (lo',hi')∧(-H≤lo'∧lo'≤lo∧hi≤hi'∧hi'≤H)∧∀ (j:Nat) v,i≤j→c7[j]? = some v→lo'≤v∧v≤hi':=by
  intro m
  induction m with
  | zero =>
    intro i n lo hi h hn h1 h2
    obtain ⟨n,rfl⟩:∃ k,n=k+1:=⟨n - 1,by omega⟩
    have:decide ((i:Int) < (c7.length:Int))=false:=by simp; omega
    rw [ref3_Sheet_Fold_L0]
    simp only [this,cond_false]
    refine ⟨lo,hi,rfl,by omega,fun j v hj hv=>?_⟩
    have:=(List.getElem?_eq_some_iff.1 hv).1
    omega
  | succ m ih =>
    intro i n lo hi h hn h1 h2
    obtain ⟨n,rfl⟩:∃ k,n=k+1:=⟨n - 1,by omega⟩
    have hd:decide ((i:Int) < (c7.length:Int))=true:=by simp; omega
    have hw:IntKind.i64.wrap ((i:Int)+1)=((i+1:Nat):Int):=by rw [wrap_id (by omega)]; omega
    have hg:c7[i]? = some (c7.getD i 0):=by
      rw [List.getD_eq_getElem?_getD,List.getElem?_eq_getElem (by omega)]; rfl
    have hb:=hc _ (List.mem_of_getElem? hg)
    obtain ⟨v,hv⟩:∃ v,c7.getD i 0=v:=⟨_,rfl⟩
    rw [hv] at hg hb
    rw [ref3_Sheet_Fold_L0]
    simp only [hd,cond_true,Int.toNat_natCast,hw,hv]
    rw [chk_pos (by omega)]
    obtain ⟨lo',hi',e,hbd,hall⟩:=ih (i+1) n (if v < lo then v else lo) (if hi < v then v else hi) (by omega) (by omega) (by split <;> omega) (by split <;> omega)
    have q1:lo'≤lo∧lo'≤v:=by have:=hbd.2.1; split at this <;> omega
    have q2:hi≤hi'∧v≤hi':=by have:=hbd.2.2.1; split at this <;> omega
    refine ⟨lo',hi',e,by omega,fun j u hj hu=>?_⟩
    by_cases hji:j=i
    · subst hji
      rw [hg] at hu
      cases hu
      omega
    · exact hall j u (by omega) hu
/-- The coordinate that a fold looks at. -/
def crd (s:S_FoldStep) (l:Lf):Int:=if acr s then l.x else l.y
def moved (s:S_FoldStep) (line:Int) (l:Lf):Bool:=decide (crd s l < line) == fst s
def refl1 (s:S_FoldStep) (line lo hi:Int) (l:Lf):Lf :=
  { x:=if acr s then 2 * line - l.x - 1 else l.x,y:=if acr s then l.y else 2 * line - l.y - 1,
    fx:=if acr s then !l.fx else l.fx,fy:=if acr s then l.fy else !l.fy,h:=if s.f2 then 2 * hi+1 - l.h else 2 * lo - 1 - l.h }
def upd (s:S_FoldStep) (line lo hi:Int) (l:Lf):Lf:=if moved s line l then refl1 s line lo hi l else l
theorem set_mid {α:Type} (A B:List α) (x v:α):(A++x :: B).set A.length v=A++v :: B:=by
  rw [List.set_append_right _ _ (Nat.le_refl _)]
  simp
theorem getD_mid (A B:List Int) (x:Int):(A++x :: B).getD A.length 0=x:=by
  rw [List.getD_eq_getElem?_getD,List.getElem?_append_right (Nat.le_refl _)]
  simp
theorem pB_not (b:Bool):pB (!b)=1 - pB b:=by cases b <;> rfl
/-- Lists with one leaf in the midst. -/
theorem lists_mid (A B:List Lf) (l:Lf):lists (A++l :: B) =
    ⟨A.map Lf.ax++l.ax :: B.map Lf.ax,A.map Lf.ay++l.ay :: B.map Lf.ay,A.map Lf.bx++l.bx :: B.map Lf.bx,A.map Lf.ay++l.ay :: B.map Lf.ay,A.map Lf.ax++l.ax :: B.map Lf.ax,A.map Lf.cy++l.cy :: B.map Lf.cy,A.map Lf.h++l.h :: B.map Lf.h⟩:=by
  simp [lists]
theorem setm (A B:List Lf) (l:Lf) (f:Lf→Int) (v:Int):(A.map f++f l :: B.map f).set A.length v=A.map f++v :: B.map f:=by
  have:=set_mid (A.map f) (B.map f) (f l) v
  rwa [List.length_map] at this
theorem getm (A B:List Lf) (l:Lf) (f:Lf→Int):(A.map f++f l :: B.map f).getD A.length 0=f l:=by
  have:=getD_mid (A.map f) (B.map f) (f l)
  rwa [List.length_map] at this
/-- Leaves within bounds. -/
def Bd (K:Int) (l:Lf):Prop:=(-K≤l.x∧l.x≤K)∧(-K≤l.y∧l.y≤K)∧(-K≤l.h∧l.h≤K)
theorem ref3_Sheet_Fold_L2_eq (F:Nat) {s:S_FoldStep} (hac:decide (s.f0 < 2)=acr s) (c7:List Int) {line lo hi:Int} (hli : -1000000≤line∧line≤1000000) (hlo : -1000000≤lo∧lo≤1000000) (hhi : -1000000≤hi∧hi≤1000000) (X0 Y0 X1 Y1 C:Int) :
    ∀ (B A:List Lf) (n:Nat),B.length < n→c7.length=A.length+B.length→c7.length≤1000→(∀ l∈B,Bd 1000000 l) →
      ref3_Sheet_Fold_L2 F s c7 line lo hi n A.length (lists (A++B)).a (lists (A++B)).b (lists (A++B)).c (lists (A++B)).d (lists (A++B)).e (lists (A++B)).f (lists (A++B)).g X0 Y0 X1 Y1 C =
        let M:=A++B.map (upd s line lo hi)
        some ((lists M).a,(lists M).b,(lists M).c,(lists M).d,(lists M).e,(lists M).f,(lists M).g,X0,Y0,X1,Y1,C):=by
  intro B
  induction B with
  | nil =>
    intro A n hn hc hc2 _
    obtain ⟨n,rfl⟩:∃ k,n=k+1:=⟨n - 1,by omega⟩
    have:decide ((A.length:Int) < (c7.length:Int))=false:=by simp at hc ⊢; omega
    rw [ref3_Sheet_Fold_L2]
    simp only [this,cond_false,List.map_nil]
  | cons l B ih =>
    intro A n hn hc hc2 hb
    obtain ⟨n,rfl⟩:∃ k,n=k+1:=⟨n - 1,by omega⟩
    simp only [List.length_cons] at hc hn
    have hd:decide ((A.length:Int) < (c7.length:Int))=true:=by simp; omega
    have hw:IntKind.i64.wrap ((A.length:Int)+1)=((A.length+1:Nat):Int):=by rw [wrap_id (by omega)]; omega
    obtain ⟨⟨hx1,hx2⟩,⟨hy1,hy2⟩,hh1,hh2⟩:=hb l (by simp)
    have hget:(A++l :: B)[A.length]? = some l:=by simp
    have h38:=ref3_Sheet_leftTop_eq F (A++l :: B) A.length l hget ⟨hx1,hx2⟩ ⟨hy1,hy2⟩ (lists (A++l :: B)).g X0 Y0 X1 Y1 C
    have hI:=ih (A++[upd s line lo hi l]) n (by omega) (by simp; omega) hc2 (fun l' hl'=>hb l' (by simp [hl']))
    rw [ref3_Sheet_Fold_L2]
    simp only [hd,cond_true,h38,call_some,hw,hac]
    have ec:(bif acr s then some l.x else some l.y)=some (crd s l):=by unfold crd; cases acr s <;> rfl
    rw [ec,call_some]
    have hfst:(bif (s.f0 == (0:Int)) then true else (s.f0 == (2:Int)))=fst s:=rfl
    rw [hfst]
    have hm:(decide (crd s l < line) == fst s)=moved s line l:=rfl
    rw [hm]
    simp only [List.length_append,List.length_singleton,List.append_assoc,List.singleton_append] at hI
    cases hmv:moved s line l
    · have hu:upd s line lo hi l=l:=by simp [upd,hmv]
      rw [hu] at hI
      simp only [Bool.not_false,cond_true,call_some]
      rw [hI]
      simp [hu]
    · have hu:upd s line lo hi l=refl1 s line lo hi l:=by simp [upd,hmv]
      rw [hu] at hI
      simp only [Bool.not_true,cond_false]
      simp only [lists_mid,getm,setm,Int.toNat_natCast,List.length_append,List.length_cons,List.length_map,lett_eq]
      simp only [chk_pos (show (0:Int)≤(A.length:Int)∧(A.length:Int) < ((A.length+(B.length+1):Nat):Int) from by omega)]
      have hp:∀ b,0≤pB b∧pB b≤1:=by intro b; cases b <;> simp [pB]
      have p1:=hp l.fx
      have p2:=hp l.fy
      have hw2:IntKind.i64.wrap (2 * line)=2 * line:=wrap_id (by omega)
      have wh1:IntKind.i64.wrap (IntKind.i64.wrap (IntKind.i64.wrap (2 * hi)+1) - l.h)=2 * hi+1 - l.h:=by
        rw [wrap_id (x:=2 * hi) (by omega),wrap_id (x:=2 * hi+1) (by omega),wrap_id (by omega)]
      have wh2:IntKind.i64.wrap (IntKind.i64.wrap (IntKind.i64.wrap (2 * lo) - 1) - l.h)=2 * lo - 1 - l.h:=by
        rw [wrap_id (x:=2 * lo) (by omega),wrap_id (x:=2 * lo - 1) (by omega),wrap_id (by omega)]
      have wax:IntKind.i64.wrap (2 * line - l.ax)=2 * line - l.ax:=wrap_id (by unfold Lf.ax; omega)
      have wbx:IntKind.i64.wrap (2 * line - l.bx)=2 * line - l.bx:=wrap_id (by unfold Lf.bx; rw [pB_not]; omega)
      have way:IntKind.i64.wrap (2 * line - l.ay)=2 * line - l.ay:=wrap_id (by unfold Lf.ay; omega)
      have wcy:IntKind.i64.wrap (2 * line - l.cy)=2 * line - l.cy:=wrap_id (by unfold Lf.cy; rw [pB_not]; omega)
      simp only [hw2,wh1,wh2,wax,wbx,way,wcy]
      simp only [lists_mid] at hI
      cases ha:acr s
      · have r1:(refl1 s line lo hi l).ax=l.ax:=by simp [refl1,Lf.ax,ha]
        have r2:(refl1 s line lo hi l).bx=l.bx:=by simp [refl1,Lf.bx,ha]
        have r3:(refl1 s line lo hi l).ay=2 * line - l.ay:=by simp [refl1,Lf.ay,ha,pB_not]; omega
        have r4:(refl1 s line lo hi l).cy=2 * line - l.cy:=by simp [refl1,Lf.cy,ha,pB_not]; omega
        simp only [r1,r2,r3,r4] at hI
        cases hf:s.f2
        · have r5:(refl1 s line lo hi l).h=2 * lo - 1 - l.h:=by simp [refl1,hf]
          simp only [r5] at hI
          simp only [cond_false,call_some]
          rw [hI]
          simp only [List.map_cons,hu,lists_mid,r1,r2,r3,r4,r5]
        · have r5:(refl1 s line lo hi l).h=2 * hi+1 - l.h:=by simp [refl1,hf]
          simp only [r5] at hI
          simp only [cond_false,cond_true,call_some]
          rw [hI]
          simp only [List.map_cons,hu,lists_mid,r1,r2,r3,r4,r5]
      · have r1:(refl1 s line lo hi l).ay=l.ay:=by simp [refl1,Lf.ay,ha]
        have r2:(refl1 s line lo hi l).cy=l.cy:=by simp [refl1,Lf.cy,ha]
        have r3:(refl1 s line lo hi l).ax=2 * line - l.ax:=by simp [refl1,Lf.ax,ha,pB_not]; omega
        have r4:(refl1 s line lo hi l).bx=2 * line - l.bx:=by simp [refl1,Lf.bx,ha,pB_not]; omega
        simp only [r1,r2,r3,r4] at hI
        cases hf:s.f2
        · have r5:(refl1 s line lo hi l).h=2 * lo - 1 - l.h:=by simp [refl1,hf]
          simp only [r5] at hI
          simp only [cond_false,cond_true,call_some]
          rw [hI]
          simp only [List.map_cons,hu,lists_mid,r1,r2,r3,r4,r5]
        · have r5:(refl1 s line lo hi l).h=2 * hi+1 - l.h:=by simp [refl1,hf]
          simp only [r5] at hI
          simp only [cond_true,call_some]
          rw [hI]
          simp only [List.map_cons,hu,lists_mid,r1,r2,r3,r4,r5]
/-- The least and the greatest of what has come. -/
def mnA (a v:Int):Int:=if v < a then v else a
def mxA (a v:Int):Int:=if a < v then v else a
theorem ref3_Sheet_Fold_L4_eq (F:Nat) (v39:List Int) (C:Int) :
    ∀ (B A:List Lf) (n:Nat) (X0 Y0 X1 Y1:Int),B.length < n→v39.length=A.length+B.length→v39.length≤1000→(∀ l∈B,Bd 1000000 l) →
      ref3_Sheet_Fold_L4 F v39 n A.length (lists (A++B)).a (lists (A++B)).b (lists (A++B)).c (lists (A++B)).d (lists (A++B)).e (lists (A++B)).f (lists (A++B)).g X0 Y0 X1 Y1 C =
        let M:=A++B
        some ((lists M).a,(lists M).b,(lists M).c,(lists M).d,(lists M).e,(lists M).f,(lists M).g,(B.map Lf.x).foldl mnA X0,(B.map Lf.y).foldl mnA Y0,(B.map fun l=>l.x+1).foldl mxA X1,(B.map fun l=>l.y+1).foldl mxA Y1,C):=by
  intro B
  induction B with
  | nil =>
    intro A n X0 Y0 X1 Y1 hn hc hc2 _
    obtain ⟨n,rfl⟩:∃ k,n=k+1:=⟨n - 1,by omega⟩
    have:decide ((A.length:Int) < (v39.length:Int))=false:=by simp at hc ⊢; omega
    rw [ref3_Sheet_Fold_L4]
    simp only [this,cond_false,List.map_nil,List.foldl_nil]
  | cons l B ih =>
    intro A n X0 Y0 X1 Y1 hn hc hc2 hb
    obtain ⟨n,rfl⟩:∃ k,n=k+1:=⟨n - 1,by omega⟩
    simp only [List.length_cons] at hc hn
    have hd:decide ((A.length:Int) < (v39.length:Int))=true:=by simp; omega
    have hw:IntKind.i64.wrap ((A.length:Int)+1)=((A.length+1:Nat):Int):=by rw [wrap_id (by omega)]; omega
    obtain ⟨⟨hx1,hx2⟩,⟨hy1,hy2⟩,hh1,hh2⟩:=hb l (by simp)
    have hget:(A++l :: B)[A.length]? = some l:=by simp
    have h38:=ref3_Sheet_leftTop_v1_eq F (A++l :: B) A.length l hget ⟨hx1,hx2⟩ ⟨hy1,hy2⟩ (lists (A++l :: B)).g X0 Y0 X1 Y1 C
    have wx:IntKind.i64.wrap (l.x+1)=l.x+1:=wrap_id (by omega)
    have wy:IntKind.i64.wrap (l.y+1)=l.y+1:=wrap_id (by omega)
    have hI:=ih (A++[l]) n (mnA X0 l.x) (mnA Y0 l.y) (mxA X1 (l.x+1)) (mxA Y1 (l.y+1)) (by omega) (by simp; omega) hc2 (fun l' hl'=>hb l' (by simp [hl']))
    simp only [List.length_append,List.length_singleton,List.append_assoc,List.singleton_append] at hI
    rw [ref3_Sheet_Fold_L4]
    simp only [hd,cond_true,h38,call_some,hw,lett_eq,wx,wy]
    exact hI
end Go.Vm.BinG
