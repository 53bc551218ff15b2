/-
  FOLD,PLAIN,part 2: the sheet of the reference.
-/
import Derived.Test.YteidenpelbooeaaBinLa
namespace Go.Vm.BinG
/-- A leaf on the table: the left upper corner of its square,how it is turned,its height. -/
structure Lf where
  x:Int
  y:Int
  fx:Bool
  fy:Bool
  h:Int
def pB (b:Bool):Int:=bif b then 1 else 0
def Lf.ax (l:Lf):Int:=l.x+pB l.fx
def Lf.ay (l:Lf):Int:=l.y+pB l.fy
def Lf.bx (l:Lf):Int:=l.x+pB (!l.fx)
def Lf.cy (l:Lf):Int:=l.y+pB (!l.fy)
/-- The lists of the sheet. -/
structure Ls where
  (a b c d e f g:List Int)
def lists (L:List Lf):Ls:=⟨L.map Lf.ax,L.map Lf.ay,L.map Lf.bx,L.map Lf.ay,L.map Lf.ax,L.map Lf.cy,L.map Lf.h⟩
theorem getD_map (L:List Lf) (f:Lf→Int) (i:Nat) (l:Lf) (h:L[i]? = some l):(L.map f).getD i 0=f l:=by
  rw [List.getD_eq_getElem?_getD,List.getElem?_map,h]
  rfl
theorem mn2 (x:Int) (b:Bool) (d:Int) (hd:d=x+pB (!b)∨d=x+pB b) :
    (if x+pB b < (if x+pB (!b) < (if d < x+pB b then d else x+pB b) then x+pB (!b) else (if d < x+pB b then d else x+pB b)) then x+pB b else (if x+pB (!b) < (if d < x+pB b then d else x+pB b) then x+pB (!b) else (if d < x+pB b then d else x+pB b)))=x:=by
  cases b <;> simp only [pB,Bool.not_true,Bool.not_false,cond_true,cond_false] at * <;> (repeat' split) <;> omega
theorem ref3_Sheet_leftTop_eq (F:Nat) (L:List Lf) (i:Nat) (l:Lf) (hl:L[i]? = some l) (hx : -1000000≤l.x∧l.x≤1000000) (hy : -1000000≤l.y∧l.y≤1000000) (c7:List Int) (c8 c9 c10 c11 c12:Int) :
    ref3_Sheet_leftTop F i (lists L).a (lists L).b (lists L).c (lists L).d (lists L).e (lists L).f c7 c8 c9 c10 c11 c12=some (l.x,l.y,(lists L).a,(lists L).b,(lists L).c,(lists L).d,(lists L).e,(lists L).f,c7,c8,c9,c10,c11,c12):=by
  have hi:i < L.length:=(List.getElem?_eq_some_iff.1 hl).1
  have ga:(L.map Lf.ax).getD i 0=l.x+pB l.fx:=getD_map L Lf.ax i l hl
  have gb:(L.map Lf.ay).getD i 0=l.y+pB l.fy:=getD_map L Lf.ay i l hl
  have gc:(L.map Lf.bx).getD i 0=l.x+pB (!l.fx):=getD_map L Lf.bx i l hl
  have gf:(L.map Lf.cy).getD i 0=l.y+pB (!l.fy):=getD_map L Lf.cy i l hl
  have hp:∀ b,0≤pB b∧pB b≤1:=by intro b; cases b <;> simp [pB]
  have p1:=hp l.fx
  have p2:=hp l.fy
  have p3:=hp (!l.fx)
  have p4:=hp (!l.fy)
  have w1:IntKind.i64.wrap (IntKind.i64.wrap ((l.x+pB (!l.fx))+(l.x+pB l.fx)) - (l.x+pB l.fx))=l.x+pB (!l.fx):=by
    rw [wrap_id (x:=(l.x+pB (!l.fx))+(l.x+pB l.fx)) (by omega),wrap_id (by omega)]; omega
  have w2:IntKind.i64.wrap (IntKind.i64.wrap ((l.y+pB l.fy)+(l.y+pB (!l.fy))) - (l.y+pB l.fy))=l.y+pB (!l.fy):=by
    rw [wrap_id (x:=(l.y+pB l.fy)+(l.y+pB (!l.fy))) (by omega),wrap_id (by omega)]; omega
  unfold ref3_Sheet_leftTop
  simp only [lists,List.length_map,Int.toNat_natCast,lett_eq]
  simp only [chk_pos (show (0:Int)≤(i:Int)∧(i:Int) < (L.length:Int) from by omega)]
  simp only [ga,gb,gc,gf,w1,w2]
  rw [mn2 l.x l.fx _ (.inl rfl)]
  have m2:(if l.y+pB (!l.fy) < (if l.y+pB l.fy < (if l.y+pB (!l.fy) < l.y+pB l.fy then l.y+pB (!l.fy) else l.y+pB l.fy) then l.y+pB l.fy else (if l.y+pB (!l.fy) < l.y+pB l.fy then l.y+pB (!l.fy) else l.y+pB l.fy)) then l.y+pB (!l.fy) else (if l.y+pB l.fy < (if l.y+pB (!l.fy) < l.y+pB l.fy then l.y+pB (!l.fy) else l.y+pB l.fy) then l.y+pB l.fy else (if l.y+pB (!l.fy) < l.y+pB l.fy then l.y+pB (!l.fy) else l.y+pB l.fy)))=l.y:=by
    cases l.fy <;> simp only [pB,Bool.not_true,Bool.not_false,cond_true,cond_false] at * <;> (repeat' split) <;> omega
  rw [m2]
theorem ref3_Sheet_leftTop_v1_eq (F:Nat) (L:List Lf) (i:Nat) (l:Lf) (hl:L[i]? = some l) (hx : -1000000≤l.x∧l.x≤1000000) (hy : -1000000≤l.y∧l.y≤1000000) (c7:List Int) (c8 c9 c10 c11 c12:Int) :
    ref3_Sheet_leftTop_v1 F i (lists L).a (lists L).b (lists L).c (lists L).d (lists L).e (lists L).f c7 c8 c9 c10 c11 c12=some (l.x,l.y,(lists L).a,(lists L).b,(lists L).c,(lists L).d,(lists L).e,(lists L).f,c7,c8,c9,c10,c11,c12):=ref3_Sheet_leftTop_eq F L i l hl hx hy c7 c8 c9 c10 c11 c12
/-! ### Laid -/
def lf0 (c r:Nat):Lf:=⟨c,r,false,false,0⟩
theorem lf0_ax (c r:Nat):(lf0 c r).ax=c:=by simp [lf0,Lf.ax,pB]
theorem lf0_ay (c r:Nat):(lf0 c r).ay=r:=by simp [lf0,Lf.ay,pB]
theorem lf0_bx (c r:Nat):(lf0 c r).bx=c+1:=by simp [lf0,Lf.bx,pB]
theorem lf0_cy (c r:Nat):(lf0 c r).cy=r+1:=by simp [lf0,Lf.cy,pB]
theorem lf0_h (c r:Nat):(lf0 c r).h=0:=rfl
theorem ref3_Laid_L2_eq {F:Nat} (a0:S_FoldScheme) {C:Nat} (hC:a0.f0=C) (hC8:C≤8) (r:Nat) (hr:r≤8) :
    ∀ (m c n:Nat) (M:List Lf),c+m=C→m < n→M.length+m≤1000 →
      ref3_Laid_L2 F a0 r n (lists M).a (lists M).b (lists M).c (lists M).d (lists M).e (lists M).f (lists M).g c =
        let M':=M++(List.range' c m).map fun c=>lf0 c r
        some ((lists M').a,(lists M').b,(lists M').c,(lists M').d,(lists M').e,(lists M').f,(lists M').g):=by
  intro m
  induction m with
  | zero =>
    intro c n M h hn _
    obtain ⟨n,rfl⟩:∃ k,n=k+1:=⟨n - 1,by omega⟩
    have:decide ((c:Int) < a0.f0)=false:=by simp; omega
    rw [ref3_Laid_L2]
    simp only [this,cond_false]
    simp
  | succ m ih =>
    intro c n M h hn hl
    obtain ⟨n,rfl⟩:∃ k,n=k+1:=⟨n - 1,by omega⟩
    have hd:decide ((c:Int) < a0.f0)=true:=by simp; omega
    have hw:IntKind.i64.wrap ((c:Int)+1)=(c:Int)+1:=wrap_id (by omega)
    have hw2:IntKind.i64.wrap ((r:Int)+1)=(r:Int)+1:=wrap_id (by omega)
    have step:∀ M:List Lf,lists (M++[lf0 c r])=⟨(lists M).a++[(c:Int)],(lists M).b++[(r:Int)],(lists M).c++[(c:Int)+1],(lists M).d++[(r:Int)],(lists M).e++[(c:Int)],(lists M).f++[(r:Int)+1],(lists M).g++[(0:Int)]⟩:=by
      intro M
      simp [lists,lf0_ax,lf0_ay,lf0_bx,lf0_cy,lf0_h]
    have:=ih (c+1) n (M++[lf0 c r]) (by omega) (by omega) (by simp; omega)
    rw [step] at this
    rw [ref3_Laid_L2]
    simp only [hd,cond_true,hw,hw2]
    have hlen:(lists M).a.length=M.length∧(lists M).b.length=M.length∧(lists M).c.length=M.length∧(lists M).d.length=M.length∧(lists M).e.length=M.length∧(lists M).f.length=M.length∧(lists M).g.length=M.length:=by simp [lists]
    obtain ⟨h1,h2,h3,h4,h5,h6,h7⟩:=hlen
    rw [chk_pos (by simp; omega),chk_pos (by simp; omega),chk_pos (by simp; omega),chk_pos (by simp; omega),chk_pos (by simp; omega),chk_pos (by simp; omega),chk_pos (by simp; omega)]
    rw [show (c:Int)+1=((c+1:Nat):Int) by omega] at this ⊢
    rw [this]
    simp [List.range'_succ]
theorem ref3_Laid_L0_eq {F:Nat} (hF:20≤F) (a0:S_FoldScheme) {C R:Nat} (hC:a0.f0=C) (hC8:C≤8) (hR:a0.f1=R) (hR8:R≤8) :
    ∀ (m r n:Nat) (M:List Lf),r+m=R→m < n→M.length+m * 8≤900 →
      ref3_Laid_L0 F a0 n (lists M).a (lists M).b (lists M).c (lists M).d (lists M).e (lists M).f (lists M).g r =
        let M':=M++(List.range' r m).flatMap fun r=>(List.range' 0 C).map fun c=>lf0 c r
        some ((lists M').a,(lists M').b,(lists M').c,(lists M').d,(lists M').e,(lists M').f,(lists M').g):=by
  intro m
  induction m with
  | zero =>
    intro r n M h hn _
    obtain ⟨n,rfl⟩:∃ k,n=k+1:=⟨n - 1,by omega⟩
    have:decide ((r:Int) < a0.f1)=false:=by simp; omega
    rw [ref3_Laid_L0]
    simp only [this,cond_false]
    simp
  | succ m ih =>
    intro r n M h hn hl
    obtain ⟨n,rfl⟩:∃ k,n=k+1:=⟨n - 1,by omega⟩
    have hd:decide ((r:Int) < a0.f1)=true:=by simp; omega
    have hw:IntKind.i64.wrap ((r:Int)+1)=((r+1:Nat):Int):=by rw [wrap_id (by omega)]; omega
    have h2:=ref3_Laid_L2_eq (F:=F) a0 hC hC8 r (by omega) C 0 F M (by omega) (by omega) (by omega)
    have h3:=ih (r+1) n (M++(List.range' 0 C).map fun c=>lf0 c r) (by omega) (by omega) (by simp; omega)
    rw [ref3_Laid_L0]
    simp only [hd,cond_true]
    rw [show (0:Int)=((0:Nat):Int) from rfl,h2]
    simp only [call_some,hw]
    rw [h3]
    simp [List.range'_succ]
/-- The sheet as the reference holds it. -/
def sh (L:List Lf) (X0 Y0 X1 Y1 C:Int):S_ref3_Sheet:=⟨(lists L).a,(lists L).b,(lists L).c,(lists L).d,(lists L).e,(lists L).f,(lists L).g,X0,Y0,X1,Y1,C⟩
theorem ref3_Laid_eq {F:Nat} (hF:20≤F) (a0:S_FoldScheme) {C R:Nat} (hC:a0.f0=C) (hC8:C≤8) (hR:a0.f1=R) (hR8:R≤8):ref3_Laid F a0=some (sh (grid C R lf0) 0 0 C R C):=by
  have h0:=ref3_Laid_L0_eq hF a0 hC hC8 hR hR8 R 0 F [] (by omega) (by omega) (by simp; omega)
  unfold ref3_Laid
  rw [show (0:Int)=((0:Nat):Int) from rfl]
  have e:lists []=⟨[],[],[],[],[],[],[]⟩:=rfl
  simp only [e] at h0
  rw [h0,hC,hR]
  rfl
end Go.Vm.BinG
