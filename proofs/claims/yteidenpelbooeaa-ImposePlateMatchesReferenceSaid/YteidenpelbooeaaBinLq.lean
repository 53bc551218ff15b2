/-
  IMPOSE,PLAIN,part 2: boxes and pages that are turned.
-/
import Derived.Test.YteidenpelbooeaaBinLp
namespace Go.Vm.BinG
/-- The sizes of what is turned. -/
def dimP (T w h:Nat):Nat×Nat:=match T with
  | 0=>(w,h)
  | 1=>(h,w)
  | 2=>(w,h)
  | _=>(h,w)
/-- A box in a frame,turned with it: its place. -/
def boxP (T FW FH x y w h:Nat):Nat×Nat:=match T with
  | 0=>(x,y)
  | 1=>(FH - y - h,x)
  | 2=>(FW - x - w,FH - y - h)
  | _=>(y,FW - x - w)
theorem box_turned_eq (F:Nat) {T FW FH x y w h:Nat} (hF:10 < F) (hT:T≤3) (hx:x+w≤FW) (hy:y+h≤FH) (b1:FW≤2048) (b2:FH≤2048) :
    ∃ FW' FH':Int,impose_box_turned F ⟨FW,FH,x,y,w,h⟩ T=some ⟨FW',FH',((boxP T FW FH x y w h).1:Int),((boxP T FW FH x y w h).2:Int),((dimP T w h).1:Int),((dimP T w h).2:Int)⟩:=by
  obtain ⟨n,rfl⟩:∃ n,F=n+5:=⟨F - 5,by omega⟩
  have stop:∀ (m:Nat) (a b c d e f:Int),impose_box_turned_L0 (n+5) (m+1) 0 a b c d e f=some (a,b,c,d,e,f):=by
    intro m a b c d e f
    rw [impose_box_turned_L0,show decide ((0:Int) > 0)=false from rfl,cond_false]
  have step:∀ (m k:Nat) (a b c d e f:Nat),d+f≤b→b≤2048→k < 10→impose_box_turned_L0 (n+5) (m+1) ((k+1:Nat):Int) a b c d e f=impose_box_turned_L0 (n+5) m (k:Int) b a ((b - d - f:Nat):Int) c f e:=by
    intro m k a b c d e f h1 h2 h3
    have e1:IntKind.i64.wrap (((k+1:Nat):Int) - 1)=(k:Int):=by rw [wrap_id (by omega)]; omega
    have e2:IntKind.i64.wrap ((b:Int) - d)=((b - d:Nat):Int):=by rw [wrap_id (by omega)]; omega
    have e3:IntKind.i64.wrap (((b - d:Nat):Int) - f)=((b - d - f:Nat):Int):=by rw [wrap_id (by omega)]; omega
    rw [impose_box_turned_L0,show decide (((k+1:Nat):Int) > 0)=true from decide_eq_true (by omega),cond_true,e1,e2,e3]
  have z:∀ (m:Nat) (a b c d e f:Int),impose_box_turned_L0 (n+5) (m+1) ((0:Nat):Int) a b c d e f=some (a,b,c,d,e,f):=stop
  unfold impose_box_turned
  match T,hT with
  | 0,_=>rw [z,call_some]; exact ⟨_,_,rfl⟩
  | 1,_=>rw [step _ _ _ _ _ _ _ _ hy b2 (by omega),z,call_some]; exact ⟨_,_,rfl⟩
  | 2,_=>rw [step _ _ _ _ _ _ _ _ hy b2 (by omega),step _ _ _ _ _ _ _ _ hx b1 (by omega),z,call_some]; exact ⟨_,_,rfl⟩
  | 3,_ =>
    rw [step _ _ _ _ _ _ _ _ hy b2 (by omega),step _ _ _ _ _ _ _ _ hx b1 (by omega),step _ _ _ _ _ _ _ _ (by omega) b2 (by omega),z,call_some]
    have:FH - (FH - y - h) - h=y:=by omega
    rw [this]
    exact ⟨_,_,rfl⟩
/-- A pixel of a page that is turned. -/
def pxT (p:S_Plate) (W H T i j:Nat):UInt8:=match T with
  | 0=>p.f2.getD (j * W+i) 0
  | 1=>p.f2.getD ((H - 1 - i) * W+j) 0
  | 2=>p.f2.getD ((H - 1 - j) * W+(W - 1 - i)) 0
  | _=>p.f2.getD (i * W+(W - 1 - j)) 0
theorem quarter_T {T:Nat} (hT:T≤3):quarter (T:Int)=T:=by
  match T,hT with
  | 0,_=>decide
  | 1,_=>decide
  | 2,_=>decide
  | 3,_=>decide
theorem turn_px {p:S_Plate} {W H:Nat} (v:VP p W H) {T:Nat} (hT:T≤3):VP (turnP p W H (quarter T)) (dimP T W H).1 (dimP T W H).2 ∧
    ∀ i j,i < (dimP T W H).1→j < (dimP T W H).2→(turnP p W H (quarter T)).f2.getD (j * (dimP T W H).1+i) 0=pxT p W H T i j:=by
  rw [quarter_T hT]
  match T,hT with
  | 0,_=>exact ⟨v,fun _ _ _ _=>rfl⟩
  | 1,_=>exact ⟨vp_grid v.bh v.bw _,fun i j hi hj=>grid_px hi hj⟩
  | 2,_=>exact ⟨vp_grid v.bw v.bh _,fun i j hi hj=>grid_px hi hj⟩
  | 3,_=>exact ⟨vp_grid v.bh v.bw _,fun i j hi hj=>grid_px hi hj⟩
theorem px_half (p:S_Plate) {W H T i j:Nat} (hT:T≤3) (hi:i < (dimP T W H).1) (hj:j < (dimP T W H).2):pxT p W H ((T+2) % 4) i j=pxT p W H T ((dimP T W H).1 - 1 - i) ((dimP T W H).2 - 1 - j)∧dimP ((T+2) % 4) W H=dimP T W H:=by
  match T,hT with
  | 0,_=>exact ⟨rfl,rfl⟩
  | 1,_ =>
    refine ⟨?_,rfl⟩
    simp only [dimP] at hi hj
    simp only [dimP,pxT]
    congr 2
    · congr 1; omega
  | 2,_ =>
    refine ⟨?_,rfl⟩
    simp only [dimP] at hi hj
    simp only [dimP,pxT]
    have e1:H - 1 - (H - 1 - j)=j:=by omega
    have e2:W - 1 - (W - 1 - i)=i:=by omega
    rw [e1,e2]
  | 3,_ =>
    refine ⟨?_,rfl⟩
    simp only [dimP] at hi hj
    simp only [dimP,pxT]
    have e2:W - 1 - (W - 1 - j)=j:=by omega
    rw [e2]
/-- A place of a leaf,turned back. -/
def backP (T lw lh a b:Nat):Nat×Nat:=match T with
  | 0=>(a,b)
  | 1=>(b,lw - 1 - a)
  | 2=>(lw - 1 - a,lh - 1 - b)
  | _=>(lh - 1 - b,a)
/-- Whether a place lies in a box. -/
def inB (x y w h a b:Nat):Prop:=x≤a∧a < x+w∧y≤b∧b < y+h
instance (x y w h a b:Nat):Decidable (inB x y w h a b):=by unfold inB; infer_instance
theorem box_iff {T lw lh fw fh x y W H a b:Nat} (hT:T≤3) (hl:(lw,lh)=bif T % 2 == 1 then (fh,fw) else (fw,fh)) (hx:x+W≤fw) (hy:y+H≤fh) (ha:a < lw) (hb:b < lh) (p:S_Plate) :
    (inB (boxP T fw fh x y W H).1 (boxP T fw fh x y W H).2 (dimP T W H).1 (dimP T W H).2 a b↔inB x y W H (backP T lw lh a b).1 (backP T lw lh a b).2) ∧
    (inB x y W H (backP T lw lh a b).1 (backP T lw lh a b).2→pxT p W H T (a - (boxP T fw fh x y W H).1) (b - (boxP T fw fh x y W H).2)=p.f2.getD (((backP T lw lh a b).2 - y) * W+((backP T lw lh a b).1 - x)) 0):=by
  match T,hT with
  | 0,_=>exact ⟨Iff.rfl,fun _=>rfl⟩
  | 1,_ =>
    simp at hl
    simp only [boxP,dimP,backP,inB,pxT]
    refine ⟨by omega,fun h=>?_⟩
    congr 2
    · congr 1; omega
  | 2,_ =>
    simp at hl
    simp only [boxP,dimP,backP,inB,pxT]
    refine ⟨by omega,fun h=>?_⟩
    congr 2
    · congr 1; omega
    · omega
  | 3,_ =>
    simp at hl
    simp only [boxP,dimP,backP,inB,pxT]
    refine ⟨by omega,fun h=>?_⟩
    congr 2
    omega
theorem box_in {T lw lh fw fh x y W H:Nat} (hT:T≤3) (hl:(lw,lh)=bif T % 2 == 1 then (fh,fw) else (fw,fh)) (hx:x+W≤fw) (hy:y+H≤fh):(boxP T fw fh x y W H).1+(dimP T W H).1≤lw∧(boxP T fw fh x y W H).2+(dimP T W H).2≤lh:=by
  match T,hT with
  | 0,_=>simp at hl; simp only [boxP,dimP]; omega
  | 1,_=>simp at hl; simp only [boxP,dimP]; omega
  | 2,_=>simp at hl; simp only [boxP,dimP]; omega
  | 3,_=>simp at hl; simp only [boxP,dimP]; omega
/-- The turning back of a place. -/
theorem PageAt_L2_eq (F:Nat) (PG:List S_FoldPage) (k:Nat) {T:Nat} (hT:T≤3) (hf:(PG.getD k pg0).f3=T) {lw lh fw fh a b:Nat} (hl:(lw,lh)=bif T % 2 == 1 then (fh,fw) else (fw,fh)) (bw:lw≤1024) (bh:lh≤1024) (ha:a < lw) (hb:b < lh) (n:Nat) :
    ref3_PageAt_L2 F PG k (n+5) a b lw lh 0=some (((backP T lw lh a b).1:Int),((backP T lw lh a b).2:Int),(fw:Int)):=by
  have hf':(PG.getD (k:Int).toNat (S_FoldPage.mk false 0 0 0)).f3=T:=hf
  have step:∀ (m:Nat) (u v c d j:Nat),j < T→u < c→c≤1024→ref3_PageAt_L2 F PG k (m+1) u v c d j=ref3_PageAt_L2 F PG k m v ((c - 1 - u:Nat):Int) d c ((j+1:Nat):Int):=by
    intro m u v c d j hj h1 h2
    have e1:IntKind.i64.wrap ((c:Int) - 1)=((c - 1:Nat):Int):=wrap_pred (by omega) (by omega)
    have e2:IntKind.i64.wrap (((c - 1:Nat):Int) - u)=((c - 1 - u:Nat):Int):=by rw [wrap_id (by omega)]; omega
    rw [ref3_PageAt_L2,hf',dec_lt hj,cond_true,e1,e2,wrap_succ (by omega)]
  have stop:∀ (m:Nat) (u v c d:Nat),ref3_PageAt_L2 F PG k (m+1) u v c d T=some ((u:Int),(v:Int),(c:Int)):=by
    intro m u v c d
    rw [ref3_PageAt_L2,hf',dec_end,cond_false]
  have z:(0:Int)=((0:Nat):Int):=rfl
  rw [z]
  match T,hT with
  | 0,_ =>
    simp at hl
    rw [stop,hl.1]
    rfl
  | 1,_ =>
    simp at hl
    rw [step _ _ _ _ _ _ (by omega) ha bw,stop,hl.2]
    rfl
  | 2,_ =>
    simp at hl
    rw [step _ _ _ _ _ _ (by omega) ha bw,step _ _ _ _ _ _ (by omega) hb bh,stop,hl.1]
    rfl
  | 3,_ =>
    simp at hl
    rw [step _ _ _ _ _ _ (by omega) ha bw,step _ _ _ _ _ _ (by omega) hb bh,step _ _ _ _ _ _ (by omega) (by omega) bw,stop,hl.2]
    have e:lw - 1 - (lw - 1 - a)=a:=by omega
    rw [e]
    rfl
end Go.Vm.BinG
