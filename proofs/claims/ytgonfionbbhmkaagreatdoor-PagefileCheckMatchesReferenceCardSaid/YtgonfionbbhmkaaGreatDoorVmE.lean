/-
  THE V-MACHINE,text E: VmTiny,VmShort.
-/
import Derived.Test.YtgonfionbbhmkaaGreatDoorVmC
namespace Go.Vm
structure It where
 k:Nat
 h:Hint
 p:Prop
 full:Bool
 ok:p
def hsI:List It→List (Nat×Hint)
 | []=>[]
 | i :: r=>(i.k,i.h) :: hsI r
def gd1 (ops:Array Oper) (i:Nat) (G:dW):Option Bool:=match ops[i]? with
 | some o=>match chainOf ops G o with
  | some (q :: g)=>some (dN G (q :: g))
  | _=>none
 | none=>none
def gdL (P:Program) (N:Nat) (ops:Array Oper) (hs:List (Nat×Hint)):List Nat→dW→Fr→List (Option Bool)
 | [],_,_=>[]
 | i :: r,G,fr=>match step1 P N ops i (rD hs i) G fr with
  | some (G',fr',_)=>gd1 ops i G :: gdL P N ops hs r G' fr'
  | none=>[]
def pfx (g:Option Bool) (p:Prop):Prop:=match g with
 | none=>p
 | some b=>b=true→p
theorem bV9 {p:Prop} (h:p):∀ g,pfx g p
 | none=>h
 | some _=>fun _=>h
def obI:List (Option Bool)→Nat→List It→List Prop
 | [],_,_=>[]
 | g :: gs,j,[]=>pfx g True :: obI gs (j+1) []
 | g :: gs,j,i :: r=>bif i.k == j then (bif i.full then i.p else pfx g i.p) :: obI gs (j+1) r else pfx g True :: obI gs (j+1) (i :: r)
theorem aN0:∀ (gs:List (Option Bool)) (j:Nat) (l:List It),xY (obI gs j l)
 | [],_,_=>trivial
 | g :: gs,j,[]=>⟨bV9 trivial g,aN0 gs _ _⟩
 | g :: gs,j,i :: r=>by
  simp only [obI]
  cases i.k == j
  ·exact ⟨bV9 trivial g,aN0 gs _ _⟩
  ·refine ⟨?_,aN0 gs _ _⟩
   cases i.full
   ·exact bV9 i.ok g
   ·exact i.ok
def iC (k:Nat) (xs:List Nat) {P:Program} {K:Nat} {args vin vout:List AV} {res:AV} (c:aG P K args vin res vout):It:=⟨k,{ res:=res,vout:=vout,xs:=xs },_,false,c⟩
def iCh (k:Nat) (h:Hint) {P:Program} {K:Nat} {args vin vout:List AV} {res:AV} (c:aG P K args vin res vout):It:=⟨k,{ h with res:=res,vout:=vout },_,false,c⟩
def iD (k:Nat) (xs:List Nat) {P:Program} {K:Nat} {args vin vout:List AV} {res:AV} {b:Bool} (c:b=true→aG P K args vin res vout):It:=⟨k,{ res:=res,vout:=vout,xs:=xs },_,true,c⟩
def iW (k:Nat) {q:Prop} {x y:AV} (c:q∧x=y):It:=⟨k,{ rw:=some y },_,false,c⟩
def iB (k:Nat) {x y:Bool} (c:x=y):It:=⟨k,{ rw:=some (aB y) },True∧aB x=aB y,false,⟨trivial,c ▸ rfl⟩⟩
def iN (k:Nat) {x y:Int} (c:x=y):It:=⟨k,{ rw:=some (aI .i64 y) },True∧aI .i64 x=aI .i64 y,false,⟨trivial,c ▸ rfl⟩⟩
def iZ (k:Nat) {α:Type} (f:α→AV) {x y:α} (c:x=y):It:=⟨k,{ rw:=some (f y) },True∧f x=f y,false,⟨trivial,c ▸ rfl⟩⟩
def iI (k:Nat) {q:Prop} {l:List (List Dat)} {i:Nat} {x:List Dat} (c:q∧l[i]? = some x):It:=⟨k,{ cs:=x },_,false,c⟩
def iE (k:Nat) {q:Prop} {x y:List (List Dat)} (c:q∧x=y):It:=⟨k,{ es:=some y },_,false,c⟩
def iR (k:Nat) (x:List (List Dat)):It:=⟨k,{ es:=some x },x=x,false,rfl⟩
def iP (k:Nat) {p:Prop} (c:p):It:=⟨k,{},p,false,c⟩
def iX (k:Nat) (h:Hint) {p:Prop} (c:p):It:=⟨k,h,p,false,c⟩
def iF (k:Nat) (h:Hint) {p:Prop} (c:p):It:=⟨k,h,p,true,c⟩
def iH (k:Nat) (h:Hint):It:=⟨k,h,True,false,trivial⟩
section
variable {P:Program} {e:Env} {N:Nat} {fr:Fr} {Q:Exit→Act→World→Prop}
def frR (P:Program) (N:Nat) (ops:Array Oper) (hs:List (Nat×Hint)) (keep:List Nat) (fr:Fr):Fr:=match bM5 P N ops hs keep [] fr with
 | some x=>x.1
 | none=>[]
theorem cP1 {ops:Array Oper} {hs:List (Nat×Hint)} {keep:List Nat} {ob:List Prop} (h:(bM5 P N ops hs keep [] fr).map Prod.snd=some ob):bM5 P N ops hs keep [] fr=some (frR P N ops hs keep fr,ob):=by
 unfold frR
 cases hx:bM5 P N ops hs keep [] fr with
 | none=>rw [hx] at h; cases h
 | some x=>rw [hx] at h; cases h; rfl
theorem tR {id:Nat} {ops:Array Oper} (l:List It) (keep:List Nat) {k:Code} (hk:T P e N k (frR P N ops (hsI l) keep fr) Q) (h:(bM5 P N ops (hsI l) keep [] fr).map Prod.snd=some (obI (gdL P N ops (hsI l) (List.range ops.size) [] fr) 0 l):=by kernel_rfl):T P e N (.seq (.region id ops false) k) fr Q :=
 fun _ _ hm=>wp_seq (bH2 (cP1 h) (aN0 _ _ _) hm fun a' w' hm'=>hk a' w' hm')
theorem tRe {id:Nat} {ops:Array Oper} (l:List It) (keep:List Nat) (hk:∀ a w,iL e [] N (frR P N ops (hsI l) keep fr) a w→Q .normal a w) (h:(bM5 P N ops (hsI l) keep [] fr).map Prod.snd=some (obI (gdL P N ops (hsI l) (List.range ops.size) [] fr) 0 l):=by kernel_rfl):T P e N (.region id ops false) fr Q :=
 fun _ _ hm=>bH2 (cP1 h) (aN0 _ _ _) hm hk
theorem tC {α:Type} {c:Operand} {x y:Code} {b:Bool} {u v:Option α} {r:α} (h:(bif b then u else v)=some r) (ht:b=true→u=some r→T P e N x fr Q) (hf:b=false→v=some r→T P e N y fr Q) (hc:gG N [] fr c=.d (.v (.bool b)):=by kernel_rfl):T P e N (.cond c x y) fr Q :=
 cK3 b hc (fun hb=>ht hb (cR7 hb h)) fun hb=>hf hb (cR8 hb h)
theorem tJ (cs:List Co) {fr':Fr} {K:Act→World→Prop} (hq:∀ a w,iL e [] N fr' a w→K a w:=by intro a w h; repeat' (first | with_reducible exact h | refine vN ?_ | refine vQ ?_ | refine wC ?_ | refine oJ ?_ | refine oK ?_ | refine qL ?_ | refine oH rfl ?_ | exact h)) (h:mV cs fr=some fr':=by show _=_; kernel_rfl):∀ a w,iL e [] N fr a w→K a w :=
 fun a w hm=>hq a w (hm.co h)
theorem tE {ι:Type} (cs:List Co) (i:ι) {p:Prop} (hp:p) {R:ι→Prop} {I:ι→Fr} {K:Act→World→Prop} (hq:∀ a w,(∃ j,R j∧iL e [] N (I j) a w)→K a w:=by intro a w h; repeat' (first | with_reducible exact h | refine vN ?_ | refine vQ ?_ | refine wC ?_ | refine oJ ?_ | refine oK ?_ | refine qL ?_ | refine oH rfl ?_ | exact h)) (hR:p→R i:=by exact fun h=>h) (h:mV cs fr=some (I i):=by show _=_; kernel_rfl):∀ a w,iL e [] N fr a w→K a w :=
 fun a w hm=>hq a w ⟨i,hR hp,hm.co h⟩
theorem tG {σ ε:Type} (cs:List Co) {s:σ} {I:σ→Fr} {K:Act→World→Prop} (hq:∀ a w,(∃ j,(Out.go s:Out σ ε)=.go j∧iL e [] N (I j) a w)→K a w:=by intro a w h; repeat' (first | with_reducible exact h | refine vN ?_ | refine vQ ?_ | refine wC ?_ | refine oJ ?_ | refine oK ?_ | refine qL ?_ | refine oH rfl ?_ | exact h)) (h:mV cs fr=some (I s):=by show _=_; kernel_rfl):∀ a w,iL e [] N fr a w→K a w :=
 fun a w hm=>hq a w ⟨s,rfl,hm.co h⟩
theorem tS {z:Code} {Q':Exit→Act→World→Prop} {K:Act→World→Prop} (hk:T P e N z fr Q') (hq:∀ a w,z.wp P Q' a w→K a w:=by intro a w h; repeat' (first | with_reducible exact h | refine vN ?_ | refine vQ ?_ | refine wC ?_ | refine oJ ?_ | refine oK ?_ | refine qL ?_ | refine oH rfl ?_ | exact h)):∀ a w,iL e [] N fr a w→K a w :=
 fun a w hm=>hq a w (hk a w hm)
def bT6 (fr:Fr):Nat→Nat→List AV
 | _,0=>[]
 | i,n+1=>aX fr i :: bT6 fr (i+1) n
theorem bP6 {fr:Fr}:∀ (vout:List AV) (i:Nat),bT6 fr i vout.length=vout→vout.all AV.gZ=true→aJ4 fr i vout
 | [],_,_,_=>trivial
 | a :: r,i,h,hb=>by
  simp only [List.length_cons,bT6,List.cons.injEq] at h
  simp only [List.all_cons,Bool.and_eq_true] at hb
  exact ⟨⟨h.1,hb.1⟩,bP6 r (i+1) h.2 hb.2⟩
def rsF (P:Program) (N:Nat) (fn:Func) (cs:List Co) (fr:Fr):Option (List Nat×Nat×Fr):=match mV cs fr with
 | some f=>cellsOf P N fn.results.toList N f
 | none=>none
theorem tqc {fn:Func} {res:AV} {vout:List AV} {K:Act→World→Prop} (cs:List Co) (hq:∀ a w,aC9 P fn e res vout .ret a w→K a w:=by intro a w h; repeat' (first | with_reducible exact h | refine vN ?_ | refine vQ ?_ | refine wC ?_ | refine oJ ?_ | refine oK ?_ | refine qL ?_ | refine oH rfl ?_ | exact h))
  (h1:((rsF P N fn cs fr).any fun x=>decide (x.2.1≤aS) && yM x.2.1 x.2.2 x.1 && vout.all AV.gZ)=true:=by kernel_rfl) (h2:(rsF P N fn cs fr).map (fun x=>(zZ x.2.2 x.1,bT6 x.2.2 aD vout.length))=some (res,vout):=by show _=_; kernel_rfl):∀ a w,iL e [] N fr a w→K a w:=by
 intro a w hm
 refine hq a w ?_
 unfold rsF at h1 h2
 cases hc:mV cs fr with
 | none=>rw [hc] at h1; cases h1
 | some f =>
  simp only [hc] at h1 h2
  cases hx:cellsOf P N fn.results.toList N f with
  | none=>rw [hx] at h1; cases h1
  | some x =>
   obtain ⟨ts,N',fr2⟩:=x
   simp only [hx,Option.any_some,Bool.and_eq_true,decide_eq_true_eq,Option.map_some,Option.some.injEq,Prod.mk.injEq] at h1 h2
   exact cI8 _ hc hx (decide_eq_true h1.1.1) h1.1.2 h2.1 (bP6 _ _ h2.2 h1.2) a w hm
theorem tq {fn:Func} {res:AV} {vout:List AV} {K:Act→World→Prop} (keep:List Nat) (hq:∀ a w,aC9 P fn e res vout .ret a w→K a w:=by intro a w h; repeat' (first | with_reducible exact h | refine vN ?_ | refine vQ ?_ | refine wC ?_ | refine oJ ?_ | refine oK ?_ | refine qL ?_ | refine oH rfl ?_ | exact h))
  (h1:((rsF P N fn [.keep keep] fr).any fun x=>decide (x.2.1≤aS) && yM x.2.1 x.2.2 x.1 && vout.all AV.gZ)=true:=by kernel_rfl) (h2:(rsF P N fn [.keep keep] fr).map (fun x=>(zZ x.2.2 x.1,bT6 x.2.2 aD vout.length))=some (res,vout):=by show _=_; kernel_rfl):∀ a w,iL e [] N fr a w→K a w :=
 tqc _ hq h1 h2
def coF (cs:List Co) (fr:Fr):Fr:=match mV cs fr with
 | some f=>f
 | none=>[]
theorem tL1 {α σ:Type} {s:σ} {body:Code} (L:Nat→α→Option σ) (cs:List Co) (kp:List Nat) (d:α→Fr) (n:Nat) (i:α) (h:L n i=some s) (rd:∀ n i,L (n+1) i=some s→T P e N body (qD kp (d i) (coF cs fr)) (Exit.then (fun a w=>∃ j,L n j=some s∧iL e [] N (qD kp (d j) (coF cs fr)) a w) Q)) (h0:∀ i,L 0 i=none:=by exact fun _=>rfl) (hc:mV cs fr=some (qD kp (d i) (coF cs fr)):=by show _=_; kernel_rfl):T P e N (.loop body) fr Q :=
 cJ1 cs _ hc (bK7 (fun p=>qD kp (d p) (coF cs fr)) (fun n p=>L n p=some s) (fun i hh=>by rw [h0] at hh; cases hh) rd n i h)
theorem tL2 {α β σ:Type} {s:σ} {body:Code} (L:Nat→α→β→Option σ) (cs:List Co) (kp:List Nat) (d:α→β→Fr) (n:Nat) (i:α) (j:β) (h:L n i j=some s) (rd:∀ n i j,L (n+1) i j=some s→T P e N body (qD kp (d i j) (coF cs fr)) (Exit.then (fun a w=>∃ j:α×β,L n j.1 j.2=some s∧iL e [] N (qD kp (d j.1 j.2) (coF cs fr)) a w) Q)) (h0:∀ i j,L 0 i j=none:=by exact fun _ _=>rfl) (hc:mV cs fr=some (qD kp (d i j) (coF cs fr)):=by show _=_; kernel_rfl):T P e N (.loop body) fr Q :=
 cJ1 cs _ hc (bK7 (fun p=>qD kp (d p.1 p.2) (coF cs fr)) (fun n p=>L n p.1 p.2=some s) (fun i hh=>by rw [h0] at hh; cases hh) (fun n p=>rd n p.1 p.2) n (i,j) h)
theorem tL3 {α β γ σ:Type} {s:σ} {body:Code} (L:Nat→α→β→γ→Option σ) (cs:List Co) (kp:List Nat) (d:α→β→γ→Fr) (n:Nat) (i:α) (j:β) (k:γ) (h:L n i j k=some s) (rd:∀ n i j k,L (n+1) i j k=some s→T P e N body (qD kp (d i j k) (coF cs fr)) (Exit.then (fun a w=>∃ j:α×β×γ,L n j.1 j.2.1 j.2.2=some s∧iL e [] N (qD kp (d j.1 j.2.1 j.2.2) (coF cs fr)) a w) Q)) (h0:∀ i j k,L 0 i j k=none:=by exact fun _ _ _=>rfl) (hc:mV cs fr=some (qD kp (d i j k) (coF cs fr)):=by show _=_; kernel_rfl):T P e N (.loop body) fr Q :=
 cJ1 cs _ hc (bK7 (fun p=>qD kp (d p.1 p.2.1 p.2.2) (coF cs fr)) (fun n p=>L n p.1 p.2.1 p.2.2=some s) (fun i hh=>by rw [h0] at hh; cases hh) (fun n p=>rd n p.1 p.2.1 p.2.2) n (i,j,k) h)
theorem tL {ι σ:Type} {s:σ} {body:Code} (L:Nat→ι→Option σ) (cs:List Co) (kp:List Nat) (d:ι→Fr) (n:Nat) (i:ι) (h:L n i=some s) (rd:∀ n i,L (n+1) i=some s→T P e N body (qD kp (d i) (coF cs fr)) (Exit.then (fun a w=>∃ j,L n j=some s∧iL e [] N (qD kp (d j) (coF cs fr)) a w) Q)) (h0:∀ i,L 0 i=none:=by exact fun _=>rfl) (hc:mV cs fr=some (qD kp (d i) (coF cs fr)):=by show _=_; kernel_rfl):T P e N (.loop body) fr Q:=tL1 L cs kp d n i h rd h0 hc
theorem jc {σ ρ:Type} {m:Option σ} {k:σ→Option ρ} {r:ρ} (h:call m k=some r) (kp:List Nat) (d:σ→Fr) {x z:Code} (hx:∀ s,m=some s→T P e N x fr (Exit.then (fun a w=>iL e [] N (qD kp (d s) fr) a w) Q)) (hz:∀ s,k s=some r→T P e N z (qD kp (d s) fr) Q):T P e N (.seq x z) fr Q :=
 cT1 h (fun s=>qD kp (d s) fr) hx hz
theorem jct {σ ρ:Type} {m:Option σ} {k:σ→Option ρ} {r:ρ} (h:call m k=some r) (kp:List Nat) (d:σ→Fr) {x:Code} (hx:∀ s,m=some s→T P e N x fr (Exit.then (fun a w=>iL e [] N (qD kp (d s) fr) a w) Q)) (hz:∀ s,k s=some r→∀ a w,iL e [] N (qD kp (d s) fr) a w→Q .normal a w):T P e N x fr Q :=
 cL1 h (fun s=>qD kp (d s) fr) hx hz
theorem jE {σ ε ρ:Type} {m:Option (Out σ ε)} {kr:ε→Option ρ} {k:σ→Option ρ} {r:ρ} (h:dO m kr k=some r) (kp:List Nat) (d:σ→Fr) {x z:Code} (hx:∀ o,m=some o→dO (some o) kr k=some r→T P e N x fr (Exit.then (fun a w=>∃ s,o=.go s∧iL e [] N (qD kp (d s) fr) a w) Q)) (hz:∀ s,k s=some r→T P e N z (qD kp (d s) fr) Q):T P e N (.seq x z) fr Q :=
 cV4 h (fun s=>qD kp (d s) fr) hx hz
theorem jEt {σ ε ρ:Type} {m:Option (Out σ ε)} {kr:ε→Option ρ} {k:σ→Option ρ} {r:ρ} (h:dO m kr k=some r) (kp:List Nat) (d:σ→Fr) {x:Code} (hx:∀ o,m=some o→dO (some o) kr k=some r→T P e N x fr (Exit.then (fun a w=>∃ s,o=.go s∧iL e [] N (qD kp (d s) fr) a w) Q)) (hz:∀ s,k s=some r→∀ a w,iL e [] N (qD kp (d s) fr) a w→Q .normal a w):T P e N x fr Q :=
 bP2 h (fun s=>qD kp (d s) fr) hx hz
end
end Go.Vm
namespace Go.Vm
variable {P:Program} {e:Env} {N:Nat} {fr:Fr} {Q:Exit→Act→World→Prop}
theorem dC6 {fn:Func} (fr':Fr) (ts:List Nat) (cs:List Co) {res:AV} {vout:List AV} (hv:aJ4 fr' aD vout) (a:Act) (w:World) (hm:iL e [] N fr a w)
  (hts:tmpsOf fn.results.toList=some ts:=by kernel_rfl) (h:mV cs fr=some fr':=by kernel_rfl) (hNr:decide (N≤aS)=true:=by kernel_rfl) (ho:yM N fr' ts=true:=by kernel_rfl) (hres:zZ fr' ts=res:=by show _=_; kernel_rfl):aC9 P fn e res vout .ret a w :=
 cM1 ts hts cs h hNr ho hres hv a w hm
theorem tr {p:Prop}:p→True:=fun _=>trivial
end Go.Vm
