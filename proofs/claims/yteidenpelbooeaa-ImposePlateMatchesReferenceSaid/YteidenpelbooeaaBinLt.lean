/-
  IMPOSE,PLAIN,part 5: the places of a sheet; what lies at a place of a plate.
-/
import Derived.Test.YteidenpelbooeaaBinLs
namespace Go.Vm.BinG
/-- The numbers of a layout. -/
structure Geo where
  C:Nat
  R:Nat
  N:Nat
  W:Nat
  H:Nat
  hd:Nat
  sp:Nat
  mg:Nat
  cr:Nat
  fw:Nat
  fh:Nat
  lw:Nat
  lh:Nat
  st:Nat
  PG:List S_FoldPage
namespace Geo
def T (g:Geo) (k:Nat):Nat:=(g.PG.getD k pg0).f3.toNat
def col (g:Geo) (k:Nat):Nat:=(g.PG.getD k pg0).f1.toNat
def row (g:Geo) (k:Nat):Nat:=(g.PG.getD k pg0).f2.toNat
def back (g:Geo) (k:Nat):Bool:=(g.PG.getD k pg0).f0
def left (g:Geo) (k:Nat):Nat:=leftP g.N g.sp g.cr g.fw g.W k
def dm (g:Geo) (k:Nat):Nat×Nat:=dimP (g.T k) g.W g.H
def X (g:Geo) (k:Nat):Nat:=g.mg+g.col k * g.lw+(boxP (g.T k) g.fw g.fh (g.left k) g.hd g.W g.H).1
def Y (g:Geo) (k:Nat):Nat:=g.mg+g.row k * g.lh+(boxP (g.T k) g.fw g.fh (g.left k) g.hd g.W g.H).2
def sw (g:Geo):Nat:=g.C * g.lw+2 * g.mg
def sh (g:Geo):Nat:=g.R * g.lh+2 * g.mg
def PW (g:Geo):Nat:=if g.st=1 then 2 * g.sw else g.sw
def PH (g:Geo):Nat:=if g.st=2 then 2 * g.sh else g.sh
/-- The place of a page in the sheet,and how it is turned. -/
def ex (g:Geo) (k:Nat):Nat×Nat×Nat :=
  if g.st=0∨g.back k=false then (g.X k,g.Y k,g.T k)
  else if g.st=1 then (g.X k+g.sw,g.Y k,g.T k)
  else (g.sw - g.X k - (g.dm k).1,g.sh+(g.sh - g.Y k - (g.dm k).2),(g.T k+2) % 4)
def ent (g:Geo) (k:Nat):S_ImposePlace:=⟨((k+1:Nat):Int),((g.ex k).1:Int),((g.ex k).2.1:Int),((g.ex k).2.2:Int)⟩
def listE (g:Geo) (s:Bool) (k:Nat):List S_ImposePlace:=if g.st=0 then (if g.back k=s then [g.ent k] else []) else [g.ent k]
def listS (g:Geo) (s:Bool) (i m:Nat):List S_ImposePlace:=(List.range' i m).flatMap (g.listE s)
end Geo
abbrev GCtx (F:Nat) (l:S_ImposeLayout) (g:Geo) (odd:Bool) (fo:Nat):Prop:=Ctx F l g.C g.R g.N g.PG odd g.W g.H g.hd fo g.sp g.mg g.cr g.fw g.fh g.lw g.lh
variable {F:Nat} {l:S_ImposeLayout} {g:Geo} {odd:Bool} {fo:Nat}
/-- What is known of a page. -/
theorem gpage (c:GCtx F l g odd fo) {k:Nat} (hk:k < 2 * g.N):PgOk g.C g.R odd (g.PG.getD k pg0) (g.T k) (g.col k) (g.row k):=by
  obtain ⟨T,col,row,hp⟩:=c.page k hk
  have h1:g.T k=T:=by unfold Geo.T; rw [hp.t]; rfl
  have h2:g.col k=col:=by unfold Geo.col; rw [hp.c]; rfl
  have h3:g.row k=row:=by unfold Geo.row; rw [hp.r]; rfl
  rw [h1,h2,h3]
  exact hp
theorem glw (c:GCtx F l g odd fo) {k:Nat} (hk:k < 2 * g.N):(g.lw,g.lh)=bif g.T k % 2 == 1 then (g.fh,g.fw) else (g.fw,g.fh):=by
  rw [(gpage c hk).par]
  exact c.Z.lwh
/-- A page lies in its cell. -/
theorem gcell (c:GCtx F l g odd fo) {k:Nat} (hk:k < 2 * g.N):g.mg+g.col k * g.lw≤g.X k∧g.X k+(g.dm k).1≤g.mg+g.col k * g.lw+g.lw∧g.mg+g.row k * g.lh≤g.Y k∧g.Y k+(g.dm k).2≤g.mg+g.row k * g.lh+g.lh∧g.X k+(g.dm k).1+g.mg≤g.sw∧g.Y k+(g.dm k).2+g.mg≤g.sh:=by
  have hp:=gpage c hk
  have hfh:=c.hfh
  have hb:=box_in hp.bt (glw c hk) (c.left hk).1 (show g.hd+g.H≤g.fh by omega)
  have d1:=Nat.mul_le_mul_right g.lw (show g.col k+1≤g.C from hp.bc)
  have d2:=Nat.mul_le_mul_right g.lh (show g.row k+1≤g.R from hp.br)
  rw [Nat.add_mul,Nat.one_mul] at d1 d2
  unfold Geo.X Geo.Y Geo.dm Geo.sw Geo.sh Geo.left
  omega
theorem gdim (c:GCtx F l g odd fo) {k:Nat} (hk:k < 2 * g.N):1≤(g.dm k).1∧1≤(g.dm k).2:=by
  have h1:=c.bw
  have h2:=c.bh
  have hT:=(gpage c hk).bt
  unfold Geo.dm
  generalize g.T k=T at hT
  match T,hT with
  | 0,_=>simp only [dimP]; omega
  | 1,_=>simp only [dimP]; omega
  | 2,_=>simp only [dimP]; omega
  | 3,_=>simp only [dimP]; omega
theorem dim_half {T w h:Nat} (hT:T≤3):dimP ((T+2) % 4) w h=dimP T w h:=by
  match T,hT with
  | 0,_=>rfl
  | 1,_=>rfl
  | 2,_=>rfl
  | 3,_=>rfl
theorem ex_ok (c:GCtx F l g odd fo) (hst:g.st≤2) {k:Nat} (hk:k < 2 * g.N):(g.ex k).2.2≤3∧dimP (g.ex k).2.2 g.W g.H=g.dm k∧(g.ex k).1+(g.dm k).1≤g.PW∧(g.ex k).2.1+(g.dm k).2≤g.PH:=by
  have hc:=gcell c hk
  have hT:=(gpage c hk).bt
  unfold Geo.ex Geo.PW Geo.PH
  split
  · refine ⟨hT,rfl,?_,?_⟩ <;> simp only <;> split <;> omega
  · rename_i h0
    split
    · rename_i h1
      refine ⟨hT,rfl,?_,?_⟩
      · simp only; omega
      · simp only; split <;> omega
    · rename_i h1
      have h2:g.st=2:=by omega
      refine ⟨by simp only; omega,dim_half hT,?_,?_⟩
      · simp only; omega
      · simp only; rw [if_pos h2]; omega
/-- One page of a sheet. -/
theorem Sheet_step (c:GCtx F l g odd fo) (hst:g.st≤2) (h8:l.f8=g.st) {many i n:Nat} (hm:many≤2 * g.N) (hi:i < many) {v1 v2:List S_ImposePlace} (b1:v1.length≤1000) (b2:v2.length≤1000) (hPW:g.PW≤1024) (hPH:g.PH≤1024) :
    impose_Sheet_L0 F l many (g.PG,0) (g.PW,g.PH) (n+1) v1 v2 i=impose_Sheet_L0 F l many (g.PG,0) (g.PW,g.PH) n (v1++g.listE false i) (v2++g.listE true i) ((i+1:Nat):Int):=by
  have hk:i < 2 * g.N:=by omega
  have hp:=gpage c hk
  have hcl:=gcell c hk
  have hlen:=c.len
  have hN:=c.hN2
  have hF:=c.hF
  have hpl:=place_ok c hk hp
  have htk:(g.PG.drop (0:Int).toNat).take ((many:Int).toNat - (0:Int).toNat)=g.PG.take many:=by simp
  have hl:(g.PG.take many).length=many:=by rw [List.length_take]; omega
  have hgt:(g.PG.take many).getD ((i:Nat):Int).toNat (S_FoldPage.mk false 0 0 0)=g.PG.getD i pg0:=by
    simp [List.getD_eq_getElem?_getD,hi,pg0]
  have hX:((g.mg+g.col i * g.lw+(boxP (g.T i) g.fw g.fh (leftP g.N g.sp g.cr g.fw g.W i) g.hd g.W g.H).1:Nat):Int)=(g.X i:Int):=rfl
  have hY:((g.mg+g.row i * g.lh+(boxP (g.T i) g.fw g.fh (leftP g.N g.sp g.cr g.fw g.W i) g.hd g.W g.H).2:Nat):Int)=(g.Y i:Int):=rfl
  rw [hX,hY] at hpl
  have hdm:dimP (g.T i) g.W g.H=g.dm i:=rfl
  rw [hdm] at hpl
  have hsw:((g.C * g.lw+2 * g.mg:Nat):Int)=(g.sw:Int):=rfl
  have hsh:((g.R * g.lh+2 * g.mg:Nat):Int)=(g.sh:Int):=rfl
  rw [hsw,hsh] at hpl
  have hswb:g.sw≤1024:=by unfold Geo.PW at hPW; split at hPW <;> omega
  have hshb:g.sh≤1024:=by unfold Geo.PH at hPH; split at hPH <;> omega
  rw [impose_Sheet_L0]
  simp only [htk]
  rw [hl,dec_lt hi,cond_true,chk_in hi,hgt,wrap_succ (by omega),hpl,call_some]
  simp only [lett_eq,hp.t]
  rw [show (g.PG.getD i pg0).f0=g.back i from rfl,h8]
  have hst3:g.st=0∨g.st=1∨g.st=2:=by omega
  have c1:∀ x:S_ImposePlace,chk (v1.length+[x].length≤4294967296)=fun (k:Option (List S_ImposePlace×List S_ImposePlace))=>k:=by
    intro x
    funext k
    exact chk_pos (by simp; omega)
  have hent:∀ x y t:Nat,g.ex i=(x,y,t)→g.ent i=⟨((i+1:Nat):Int),(x:Int),(y:Int),(t:Int)⟩:=by
    intro x y t h
    unfold Geo.ent
    rw [h]
  rcases hst3 with h0 | h0 | h0
  · rw [h0]
    cases hb:g.back i
    · have he:=hent _ _ _ (by unfold Geo.ex; rw [if_pos (.inl h0)])
      have l1:g.listE false i=[g.ent i]:=by unfold Geo.listE; rw [if_pos h0,hb,if_pos rfl]
      have l2:g.listE true i=[]:=by unfold Geo.listE; rw [if_pos h0,hb,if_neg (by simp)]
      rw [l1,l2,he,List.append_nil]
      simp only [Int.cast_ofNat_Int,beq_self_eq_true,cond_true,cond_false,callE_go]
      rw [show ((0:Int) == 1)=false from rfl,show ((0:Int) == 2)=false from rfl]
      simp only [cond_false,callE_go]
      rw [chk_pos (by simp; omega),bne_self_eq_false,cond_false,call_some]
    · have he:=hent _ _ _ (by unfold Geo.ex; rw [if_pos (.inl h0)])
      have l1:g.listE false i=[]:=by unfold Geo.listE; rw [if_pos h0,hb,if_neg (by simp)]
      have l2:g.listE true i=[g.ent i]:=by unfold Geo.listE; rw [if_pos h0,hb,if_pos rfl]
      rw [l1,l2,he,List.append_nil]
      simp only [Int.cast_ofNat_Int,beq_self_eq_true,cond_true]
      rw [chk_pos (by simp; omega)]
      rfl
  · rw [h0]
    have l1:∀ s,g.listE s i=[g.ent i]:=by intro s; unfold Geo.listE; rw [if_neg (by omega)]
    rw [l1,l1]
    cases hb:g.back i
    · have he:=hent _ _ _ (by unfold Geo.ex; rw [if_pos (.inr hb)])
      rw [he]
      simp only [Int.cast_ofNat_Int,Int.reduceBEq,beq_self_eq_true,cond_true,cond_false,callE_go]
      rw [chk_pos (by simp; omega),show ((1:Int) != 0)=true from rfl,cond_true,chk_pos (by simp; omega),call_some]
    · have he:=hent _ _ _ (by unfold Geo.ex; rw [if_neg (by rw [hb]; simp; omega),if_pos h0])
      have hpw:g.PW=2 * g.sw:=by unfold Geo.PW; rw [if_pos h0]
      have w1:IntKind.i64.wrap ((g.X i:Int)+IntKind.i64.wrap ((g.PW:Int).tdiv 2))=((g.X i+g.sw:Nat):Int):=by
        rw [hpw,show (2:Int)=((2:Nat):Int) from rfl,tdiv_nat,show 2 * g.sw / 2=g.sw from by omega,wrap_id (x:=(g.sw:Int)) (by omega),wrap_id (by omega)]
        omega
      rw [he]
      simp only [Int.cast_ofNat_Int,Int.reduceBEq,beq_self_eq_true,cond_true,cond_false,callE_go,w1]
      rw [chk_pos (by simp; omega),show ((1:Int) != 0)=true from rfl,cond_true,chk_pos (by simp; omega),call_some]
  · rw [h0]
    have l1:∀ s,g.listE s i=[g.ent i]:=by intro s; unfold Geo.listE; rw [if_neg (by omega)]
    rw [l1,l1]
    cases hb:g.back i
    · have he:=hent _ _ _ (by unfold Geo.ex; rw [if_pos (.inr hb)])
      rw [he]
      simp only [Int.cast_ofNat_Int,Int.reduceBEq,beq_self_eq_true,cond_true,cond_false,callE_go]
      rw [chk_pos (by simp; omega),show ((2:Int) != 0)=true from rfl,cond_true,chk_pos (by simp; omega),call_some]
    · have he:=hent _ _ _ (by unfold Geo.ex; rw [if_neg (by rw [hb]; simp; omega),if_neg (by omega)])
      have hph:g.PH=2 * g.sh:=by unfold Geo.PH; rw [if_pos h0]
      obtain ⟨FW',FH',ht⟩:=box_turned_eq F (T:=2) (by omega) (by omega) (FW:=g.sw) (FH:=g.sh) (x:=g.X i) (y:=g.Y i) (w:=(g.dm i).1) (h:=(g.dm i).2) (by omega) (by omega) (by omega) (by omega)
      simp only [boxP,dimP] at ht
      rw [show (((2:Nat):Int))=(2:Int) from rfl] at ht
      have w1:IntKind.i64.wrap (IntKind.i64.wrap ((g.PH:Int).tdiv 2)+((g.sh - g.Y i - (g.dm i).2:Nat):Int))=((g.sh+(g.sh - g.Y i - (g.dm i).2):Nat):Int):=by
        rw [hph,show (2:Int)=((2:Nat):Int) from rfl,tdiv_nat,show 2 * g.sh / 2=g.sh from by omega,wrap_id (x:=(g.sh:Int)) (by omega),wrap_id (by omega)]
        omega
      have hT:=hp.bt
      have w2:(IntKind.i64.wrap ((g.T i:Int)+2)).tmod 4=(((g.T i+2) % 4:Nat):Int):=by
        rw [wrap_id (by omega),show (g.T i:Int)+2=((g.T i+2:Nat):Int) from by omega,show (4:Int)=((4:Nat):Int) from rfl,tmod_nat]
      rw [he]
      simp only [Int.cast_ofNat_Int,Int.reduceBEq,beq_self_eq_true,cond_true,cond_false,ht,call_some,callE_go,w1,w2]
      rw [chk_pos (by simp; omega),show ((2:Int) != 0)=true from rfl,cond_true,chk_pos (by simp; omega),call_some]
theorem Sheet_L0_eq (c:GCtx F l g odd fo) (hst:g.st≤2) (h8:l.f8=g.st) {many:Nat} (hm:many≤2 * g.N) (hPW:g.PW≤1024) (hPH:g.PH≤1024) :
    ∀ (m i n:Nat) (v1 v2:List S_ImposePlace),i+m=many→m < n→v1.length≤i→v2.length≤i →
      impose_Sheet_L0 F l many (g.PG,0) (g.PW,g.PH) n v1 v2 i=some (v1++g.listS false i m,v2++g.listS true i m):=by
  have hN:=c.hN2
  have hlen:=c.len
  have hle:∀ s k,(g.listE s k).length≤1:=by
    intro s k
    unfold Geo.listE
    split
    · split <;> simp
    · simp
  intro m
  induction m with
  | zero =>
    intro i n v1 v2 h hn _ _
    obtain ⟨n,rfl⟩:∃ k,n=k+1:=⟨n - 1,by omega⟩
    have htk:(g.PG.drop (0:Int).toNat).take ((many:Int).toNat - (0:Int).toNat)=g.PG.take many:=by simp
    have hl:(g.PG.take many).length=many:=by rw [List.length_take]; omega
    rw [impose_Sheet_L0]
    simp only [htk]
    rw [hl,show decide ((i:Int) < (many:Int))=false from decide_eq_false (by omega),cond_false]
    simp [Geo.listS]
  | succ m ih =>
    intro i n v1 v2 h hn b1 b2
    obtain ⟨n,rfl⟩:∃ k,n=k+1:=⟨n - 1,by omega⟩
    have e1:=hle false i
    have e2:=hle true i
    rw [Sheet_step c hst h8 hm (by omega) (by omega) (by omega) hPW hPH,ih (i+1) n _ _ (by omega) (by omega) (by rw [List.length_append]; omega) (by rw [List.length_append]; omega)]
    simp [Geo.listS,List.range'_succ]
/-- The side and the place of a single sheet that a place of a plate shows. -/
def Sig (g:Geo) (a:Bool) (x y:Nat):Bool×Nat×Nat :=
  if g.st=0 then (a,x,y)
  else if g.st=1 then (decide (g.sw≤x),x % g.sw,y)
  else if g.sh≤y then (true,g.sw - 1 - x,2 * g.sh - 1 - y) else (false,x,y)
theorem ent_iff (c:GCtx F l g odd fo) (hst:g.st≤2) {k:Nat} (hk:k < 2 * g.N) {a:Bool} (h0:g.st=0→g.back k=a) {x y:Nat} (hx:x < g.PW) (hy:y < g.PH) (p:S_Plate) :
    (inB (g.ex k).1 (g.ex k).2.1 (g.dm k).1 (g.dm k).2 x y↔(g.back k=(Sig g a x y).1∧inB (g.X k) (g.Y k) (g.dm k).1 (g.dm k).2 (Sig g a x y).2.1 (Sig g a x y).2.2)) ∧
    (inB (g.ex k).1 (g.ex k).2.1 (g.dm k).1 (g.dm k).2 x y→pxT p g.W g.H (g.ex k).2.2 (x - (g.ex k).1) (y - (g.ex k).2.1)=pxT p g.W g.H (g.T k) ((Sig g a x y).2.1 - g.X k) ((Sig g a x y).2.2 - g.Y k)):=by
  have hc:=gcell c hk
  have hT:=(gpage c hk).bt
  have hd:=gdim c hk
  have hst3:g.st=0∨g.st=1∨g.st=2:=by omega
  rcases hst3 with h | h | h
  · have e1:Sig g a x y=(a,x,y):=by unfold Sig; rw [if_pos h]
    have e2:g.ex k=(g.X k,g.Y k,g.T k):=by unfold Geo.ex; rw [if_pos (.inl h)]
    rw [e1,e2]
    exact ⟨⟨fun hb=>⟨h0 h,hb⟩,fun hb=>hb.2⟩,fun _=>rfl⟩
  · have hpw:g.PW=2 * g.sw:=by unfold Geo.PW; rw [if_pos h]
    have e1:Sig g a x y=(decide (g.sw≤x),x % g.sw,y):=by unfold Sig; rw [if_neg (by omega),if_pos h]
    rw [e1]
    by_cases hxs:g.sw≤x
    · have hmod:x % g.sw=x - g.sw:=by rw [Nat.mod_eq_sub_mod hxs,Nat.mod_eq_of_lt (by omega)]
      simp only [decide_eq_true hxs,hmod]
      cases hb:g.back k
      · have e2:g.ex k=(g.X k,g.Y k,g.T k):=by unfold Geo.ex; rw [if_pos (.inr hb)]
        rw [e2]
        unfold inB
        refine ⟨⟨fun h1=>by simp only at h1; omega,fun h1=>by simp at h1⟩,fun h1=>by simp only at h1; omega⟩
      · have e2:g.ex k=(g.X k+g.sw,g.Y k,g.T k):=by unfold Geo.ex; rw [if_neg (by rw [hb]; simp; omega),if_pos h]
        rw [e2]
        unfold inB
        refine ⟨⟨fun h1=>⟨rfl,by simp only at h1 ⊢; omega⟩,fun h1=>by have:=h1.2; simp only at this ⊢; omega⟩,fun h1=>?_⟩
        simp only
        congr 1
        omega
    · have hmod:x % g.sw=x:=Nat.mod_eq_of_lt (by omega)
      simp only [decide_eq_false hxs,hmod]
      cases hb:g.back k
      · have e2:g.ex k=(g.X k,g.Y k,g.T k):=by unfold Geo.ex; rw [if_pos (.inr hb)]
        rw [e2]
        exact ⟨⟨fun h1=>⟨rfl,h1⟩,fun h1=>h1.2⟩,fun _=>rfl⟩
      · have e2:g.ex k=(g.X k+g.sw,g.Y k,g.T k):=by unfold Geo.ex; rw [if_neg (by rw [hb]; simp; omega),if_pos h]
        rw [e2]
        unfold inB
        refine ⟨⟨fun h1=>by simp only at h1; omega,fun h1=>by simp at h1⟩,fun h1=>by simp only at h1; omega⟩
  · have hph:g.PH=2 * g.sh:=by unfold Geo.PH; rw [if_pos h]
    have hpw:g.PW=g.sw:=by unfold Geo.PW; rw [if_neg (by omega)]
    by_cases hys:g.sh≤y
    · have e1:Sig g a x y=(true,g.sw - 1 - x,2 * g.sh - 1 - y):=by unfold Sig; rw [if_neg (by omega),if_neg (by omega),if_pos hys]
      rw [e1]
      cases hb:g.back k
      · have e2:g.ex k=(g.X k,g.Y k,g.T k):=by unfold Geo.ex; rw [if_pos (.inr hb)]
        rw [e2]
        unfold inB
        refine ⟨⟨fun h1=>by simp only at h1; omega,fun h1=>by simp at h1⟩,fun h1=>by simp only at h1; omega⟩
      · have e2:g.ex k=(g.sw - g.X k - (g.dm k).1,g.sh+(g.sh - g.Y k - (g.dm k).2),(g.T k+2) % 4):=by unfold Geo.ex; rw [if_neg (by rw [hb]; simp; omega),if_neg (by omega)]
        rw [e2]
        unfold inB
        refine ⟨⟨fun h1=>⟨rfl,by simp only at h1 ⊢; omega⟩,fun h1=>by have:=h1.2; simp only at this ⊢; omega⟩,fun h1=>?_⟩
        simp only at h1 ⊢
        have hh:=px_half p (W:=g.W) (H:=g.H) (i:=x - (g.sw - g.X k - (g.dm k).1)) (j:=y - (g.sh+(g.sh - g.Y k - (g.dm k).2))) hT (show _ < (g.dm k).1 by omega) (show _ < (g.dm k).2 by omega)
        rw [hh.1]
        have hdm:dimP (g.T k) g.W g.H=g.dm k:=rfl
        rw [hdm]
        congr 1
        · omega
        · omega
    · have e1:Sig g a x y=(false,x,y):=by unfold Sig; rw [if_neg (by omega),if_neg (by omega),if_neg hys]
      rw [e1]
      cases hb:g.back k
      · have e2:g.ex k=(g.X k,g.Y k,g.T k):=by unfold Geo.ex; rw [if_pos (.inr hb)]
        rw [e2]
        exact ⟨⟨fun h1=>⟨rfl,h1⟩,fun h1=>h1.2⟩,fun _=>rfl⟩
      · have e2:g.ex k=(g.sw - g.X k - (g.dm k).1,g.sh+(g.sh - g.Y k - (g.dm k).2),(g.T k+2) % 4):=by unfold Geo.ex; rw [if_neg (by rw [hb]; simp; omega),if_neg (by omega)]
        rw [e2]
        unfold inB
        refine ⟨⟨fun h1=>by simp only at h1; omega,fun h1=>by simp at h1⟩,fun h1=>by simp only at h1; omega⟩
end Go.Vm.BinG
