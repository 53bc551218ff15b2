/-
  IMPOSE,PLAIN,part 6: each pixel of a plate is the pixel of the page that lies there.
-/
import Derived.Test.YteidenpelbooeaaBinLt
namespace Go.Vm.BinG
/-- What a page that is pasted leaves at a place. -/
def ov (ps:List S_Plate) (W H x y:Nat) (acc:UInt8) (e:S_ImposePlace):UInt8 :=
  if inB e.f1.toNat e.f2.toNat (dimP e.f3.toNat W H).1 (dimP e.f3.toNat W H).2 x y then pxT (ps.getD (e.f0.toNat - 1) pl0) W H e.f3.toNat (x - e.f1.toNat) (y - e.f2.toNat) else acc
/-- A place whose page is there and fits. -/
def EntOk (ps:List S_Plate) (W H PW PH:Nat) (e:S_ImposePlace):Prop :=
  ∃ k X Y T:Nat,e=⟨((k+1:Nat):Int),(X:Int),(Y:Int),(T:Int)⟩∧k < ps.length∧T≤3∧X+(dimP T W H).1≤PW∧Y+(dimP T W H).2≤PH
theorem Plate_L4_eq {F:Nat} (hF:1024 < F) {ps:List S_Plate} {W H PW PH:Nat} (hps:∀ k,k < ps.length→VP (ps.getD k pl0) W H) (E:List S_ImposePlace) (hE:∀ e∈E,EntOk ps W H PW PH e) (hEl:E.length≤1000) (hpl:ps.length≤1000) :
    ∀ (m i n:Nat) (g0:S_Plate),i+m=E.length→m < n→VP g0 PW PH →
      ∃ r:S_Plate,impose_Plate_L4 F ps E n g0.f0 g0.f1 g0.f2 i=some (r.f0,r.f1,r.f2)∧VP r PW PH∧∀ x y,x < PW→y < PH→r.f2.getD (y * PW+x) 0=(E.drop i).foldl (ov ps W H x y) (g0.f2.getD (y * PW+x) 0):=by
  intro m
  induction m with
  | zero =>
    intro i n g0 h hn v
    obtain ⟨n,rfl⟩:∃ k,n=k+1:=⟨n - 1,by omega⟩
    refine ⟨g0,?_,v,fun x y _ _=>?_⟩
    · rw [impose_Plate_L4,show decide ((i:Int) < ((E.length:Nat):Int))=false from decide_eq_false (by omega),cond_false]
    · rw [List.drop_of_length_le (by omega)]
      rfl
  | succ m ih =>
    intro i n g0 h hn v
    obtain ⟨n,rfl⟩:∃ k,n=k+1:=⟨n - 1,by omega⟩
    have hi:i < E.length:=by omega
    obtain ⟨k,X,Y,T,he,hk,hT,hX,hY⟩:=hE _ (List.getElem_mem hi)
    have hg:E.getD ((i:Nat):Int).toNat (S_ImposePlace.mk 0 0 0 0)=⟨((k+1:Nat):Int),(X:Int),(Y:Int),(T:Int)⟩:=by
      rw [← he]
      simp [List.getD_eq_getElem?_getD,hi]
    have vp:=hps k hk
    have hpg:ps.getD ((k:Nat):Int).toNat (S_Plate.mk 0 0 [])=ps.getD k pl0:=rfl
    obtain ⟨vt,hpx⟩:=turn_px vp hT
    obtain ⟨r1,hr1,vr1,hrx⟩:=paste_ok hF v vt hX hY
    have w0:IntKind.i64.wrap (((k+1:Nat):Int) - 1)=(k:Int):=by rw [wrap_id (by omega)]; omega
    obtain ⟨r,hr,vr,hrr⟩:=ih (i+1) n r1 (by omega) (by omega) vr1
    refine ⟨r,?_,vr,fun x y hx hy=>?_⟩
    · rw [impose_Plate_L4,dec_lt hi,cond_true,chk_in hi,hg]
      simp only [w0]
      rw [chk_in hk,hpg,of_eq F _ (by have:=vp.le; omega),call_some,turn_ok hF vp,call_some]
      change call (raster_Grid_uint8_Paste F g0 X Y (turnP (ps.getD k pl0) W H (quarter T))) _=_
      rw [hr1,call_some,wrap_succ (by omega)]
      exact hr
    · rw [hrr x y hx hy,List.drop_eq_getElem_cons hi,List.foldl_cons,hrx x y hx hy,he]
      congr 1
      unfold ov inB
      simp only [Int.toNat_natCast,Nat.add_sub_cancel]
      split
      · rename_i hin
        exact hpx _ _ (by omega) (by omega)
      · rfl
theorem fold_ov {α β:Type} {P:α→Prop} [DecidablePred P] {v:α→β} {c:β}:∀ (E:List α) (init:β),(∀ e∈E,P e→v e=c)→((∃ e∈E,P e)∨init=c)→E.foldl (fun acc e=>if P e then v e else acc) init=c
  | [],init,_,h=>by
    rcases h with ⟨e,he,_⟩ | h
    · cases he
    · exact h
  | e :: E,init,hv,h=>by
    rw [List.foldl_cons]
    refine fold_ov E _ (fun e' he'=>hv e' (List.mem_cons_of_mem _ he')) ?_
    by_cases hp:P e
    · rw [if_pos hp]
      exact .inr (hv e (List.mem_cons_self ..) hp)
    · rw [if_neg hp]
      rcases h with ⟨e',he',hp'⟩ | h
      · rcases List.mem_cons.1 he' with rfl | he'
        · exact absurd hp' hp
        · exact .inl ⟨e',he',hp'⟩
      · exact .inr h
variable {F:Nat} {l:S_ImposeLayout} {g:Geo} {odd:Bool} {fo:Nat}
theorem Plate_L0_eq {F:Nat} {l:S_ImposeLayout} {ps:List S_Plate} {W H:Nat} (ew:l.f1=W) (eh:l.f2=H) (bw:W≤256) (bh:H≤256) (hps:∀ k,k < ps.length→VP (ps.getD k pl0) W H) (hl:ps.length≤1000) :
    ∀ (m i n:Nat),i+m=ps.length→m < n→impose_Plate_L0 F l ps n i=some (.go ()):=by
  intro m
  induction m with
  | zero =>
    intro i n h hn
    obtain ⟨n,rfl⟩:∃ k,n=k+1:=⟨n - 1,by omega⟩
    rw [impose_Plate_L0,show decide ((i:Int) < ((ps.length:Nat):Int))=false from decide_eq_false (by omega),cond_false]
  | succ m ih =>
    intro i n h hn
    obtain ⟨n,rfl⟩:∃ k,n=k+1:=⟨n - 1,by omega⟩
    have hi:i < ps.length:=by omega
    have v:=hps i hi
    have hpg:ps.getD ((i:Nat):Int).toNat (S_Plate.mk 0 0 [])=ps.getD i pl0:=rfl
    have hm:=mul_1024 (a:=W) (b:=H) (by omega) (by omega)
    have w1:IntKind.i64.wrap ((W:Int) * H)=((W * H:Nat):Int):=by rw [← Int.natCast_mul,wrap_id (by omega)]
    rw [impose_Plate_L0,dec_lt hi,cond_true,chk_in hi,hpg]
    simp only [lett_eq,v.w,v.h,v.len,ew,eh,w1]
    rw [bne_self_eq_false,bne_self_eq_false,bne_self_eq_false,cond_false,cond_false,cond_false,wrap_succ (by omega)]
    exact ih (i+1) n (by omega) (by omega)
theorem mem_listS {s:Bool} {many:Nat} {e:S_ImposePlace}:e∈g.listS s 0 many↔∃ k,k < many∧e=g.ent k∧(g.st=0→g.back k=s):=by
  unfold Geo.listS
  rw [List.mem_flatMap]
  constructor
  · rintro ⟨k,hk,he⟩
    have hk':k < many:=by simpa using hk
    unfold Geo.listE at he
    split at he
    · split at he
      · rename_i hb
        exact ⟨k,hk',by simpa using he,fun _=>hb⟩
      · cases he
    · rename_i h0
      exact ⟨k,hk',by simpa using he,fun h=>absurd h h0⟩
  · rintro ⟨k,hk,rfl,hb⟩
    refine ⟨k,by simpa using hk,?_⟩
    unfold Geo.listE
    split
    · rename_i h0
      rw [if_pos (hb h0)]
      exact List.mem_singleton.2 rfl
    · exact List.mem_singleton.2 rfl
theorem listS_len {s:Bool}:∀ (m i:Nat),(g.listS s i m).length≤m:=by
  intro m
  induction m with
  | zero=>intro i; simp [Geo.listS]
  | succ m ih =>
    intro i
    have:=ih (i+1)
    have h1:(g.listE s i).length≤1:=by
      unfold Geo.listE
      split
      · split <;> simp
      · simp
    have e:g.listS s i (m+1)=g.listE s i++g.listS s (i+1) m:=by simp [Geo.listS,List.range'_succ]
    rw [e,List.length_append]
    omega
/-- A plate. -/
theorem Plate_eq (c:GCtx F l g odd fo) (hst:g.st≤2) (h8:l.f8=g.st) (hck:impose_Check F l=some 0) (hsz:impose_size F l=some ((g.PW:Int),(g.PH:Int))) (hPW:1≤g.PW∧g.PW≤1024) (hPH:1≤g.PH∧g.PH≤1024)
    {ps:List S_Plate} (hps:∀ k,k < ps.length→VP (ps.getD k pl0) g.W g.H) (hm:ps.length≤2 * g.N) (a:Bool) :
    ∃ r,impose_Plate F l ps a false=some (r,0)∧VP r g.PW g.PH∧∀ x y,x < g.PW→y < g.PH→r.f2.getD (y * g.PW+x) 0=(g.listS a 0 ps.length).foldl (ov ps g.W g.H x y) 0:=by
  have hF:=c.hF
  have hN:=c.hN2
  have hlen:=c.len
  have hL0:=Plate_L0_eq (F:=F) c.ew c.eh c.bw.2 c.bh.2 hps (by omega) ps.length 0 F (by omega) (by omega)
  rw [Int.natCast_zero] at hL0
  have hS0:=Sheet_L0_eq c hst h8 hm hPW.2 hPH.2 ps.length 0 F [] [] (by omega) (by omega) (by simp) (by simp)
  rw [Int.natCast_zero,List.nil_append,List.nil_append] at hS0
  have hsheet:impose_Sheet F l ((ps.length:Nat):Int)=some (⟨(g.PW:Int),(g.PH:Int),g.listS false 0 ps.length,g.listS true 0 ps.length⟩,0):=by
    unfold impose_Sheet
    rw [hck,call_some,bne_self_eq_false,cond_false,c.pages,call_some,or_cond]
    have hb:(decide (((ps.length:Nat):Int) < 0) || decide (((ps.length:Nat):Int) > ((g.PG.length:Nat):Int)))=false:=by
      rw [← Bool.not_eq_true]
      simp only [Bool.or_eq_true,decide_eq_true_eq]
      omega
    simp only [hb,cond_false]
    rw [hsz,call_some,chk_pos (by omega),hS0,call_some]
  have hE:∀ e∈g.listS a 0 ps.length,EntOk ps g.W g.H g.PW g.PH e:=by
    intro e he
    obtain ⟨k,hk,rfl,_⟩:=mem_listS.1 he
    obtain ⟨q1,q2,q3,q4⟩:=ex_ok c hst (k:=k) (by omega)
    exact ⟨k,(g.ex k).1,(g.ex k).2.1,(g.ex k).2.2,rfl,hk,q1,by rw [q2]; exact q3,by rw [q2]; exact q4⟩
  have hEl:(g.listS a 0 ps.length).length≤1000:=Nat.le_trans (listS_len _ _) (by omega)
  have hmk:=make_ok (F:=F) (w:=g.PW) (h:=g.PH) (by omega) hPW hPH 0
  have v0:VP (⟨(g.PW:Int),(g.PH:Int),grid g.PW g.PH fun _ _=>(0:UInt8)⟩:S_Plate) g.PW g.PH:=vp_grid hPW hPH _
  obtain ⟨r,hr,vr,hrx⟩:=Plate_L4_eq (F:=F) (by omega) hps (g.listS a 0 ps.length) hE hEl (by omega) (g.listS a 0 ps.length).length 0 F _ (by omega) (by omega) v0
  rw [Int.natCast_zero] at hr
  refine ⟨r,?_,vr,fun x y hx hy=>?_⟩
  · have w1:IntKind.i64.wrap (IntKind.i64.wrap (2 * l.f0.f0) * l.f0.f1)=((2 * g.N:Nat):Int):=by
      have hC8:=c.hC8
      have hR8:=c.hR8
      rw [c.hC,c.hR,wrap_id (x:=2 * (g.C:Int)) (by omega)]
      have e:2 * (g.C:Int) * (g.R:Int)=((2 * g.N:Nat):Int):=by
        rw [c.hN,Int.mul_assoc,← Int.natCast_mul,Nat.mul_comm g.C g.R]
        rfl
      rw [e,wrap_id (by omega)]
    have hz3:decide (((ps.length:Nat):Int) > ((2 * g.N:Nat):Int))=false:=decide_eq_false (by omega)
    have hv6:(bif a then some (g.listS true 0 ps.length) else some (g.listS false 0 ps.length))=some (g.listS a 0 ps.length):=by cases a <;> rfl
    unfold impose_Plate
    rw [hck,call_some,bne_self_eq_false,cond_false,w1,hz3,lett_eq,cond_false,hL0,callE_go,hsheet,call_some,hv6,call_some]
    have hz:(0:Int)=(((0:UInt8).toNat:Nat):Int):=rfl
    change call (raster_Make_uint8 F g.PW g.PH (((0:UInt8).toNat:Nat):Int)) _=_
    rw [hmk,call_some,cond_false,call_some]
    simp only
    change call (impose_Plate_L4 F ps (g.listS a 0 ps.length) F (g.PW:Int) (g.PH:Int) (grid g.PW g.PH fun _ _=>(0:UInt8)) 0) _=_
    rw [hr,call_some]
    change call (raster_Plate F r) _=_
    rw [plate_eq F r (by have:=vr.le; omega),call_some]
  · rw [hrx x y hx hy,List.drop_zero]
    congr 1
    exact grid_px hx hy
/-- What the reference finds at a place of a plate,and what lies there. -/
theorem pixel_ok (c:GCtx F l g odd fo) (hst:g.st≤2) (h8:l.f8=g.st) (hPW:1≤g.PW∧g.PW≤1024) (hPH:1≤g.PH∧g.PH≤1024)
    {ps:List S_Plate} (hps:∀ k,k < ps.length→VP (ps.getD k pl0) g.W g.H) (hm:ps.length≤2 * g.N) (a:Bool) {x y:Nat} (hx:x < g.PW) (hy:y < g.PH) :
    ∃ q,ref3_PixelAt F l g.PG a x y=some q ∧
      (bif (bif (decide (q.1 > (0:Int))) then (decide (q.1≤((ps.length:Nat):Int))) else false) then chk (0≤(IntKind.i64.wrap (q.1 - (1:Int)))∧(IntKind.i64.wrap (q.1 - (1:Int))) < ps.length) <| call (ref3_Pix F (ps.getD (IntKind.i64.wrap (q.1 - (1:Int))).toNat (S_Plate.mk 0 0 [])) q.2.1 q.2.2) fun y7=>some y7 else some (0:Int))=some ((((g.listS a 0 ps.length).foldl (ov ps g.W g.H x y) 0).toNat:Nat):Int):=by
  have hF:=c.hF
  have hN:=c.hN2
  have hlw:=c.lw1
  have hlh:=c.lh1
  have hsw:g.sw≤1024∧1≤g.sw:=by
    have:=hPW
    have d:=Nat.mul_le_mul c.hC8.1 hlw.1
    unfold Geo.PW at this
    unfold Geo.sw at this ⊢
    split at this <;> omega
  have hsh:g.sh≤1024∧1≤g.sh:=by
    have:=hPH
    have d:=Nat.mul_le_mul c.hR8.1 hlh.1
    unfold Geo.PH at this
    unfold Geo.sh at this ⊢
    split at this <;> omega
  -- the reference looks at the single sheet
  have hsig:ref3_PixelAt F l g.PG a x y=ref3_PageAt F l g.PG (Sig g a x y).1 ((Sig g a x y).2.1:Int) ((Sig g a x y).2.2:Int)∧(Sig g a x y).2.1≤4000∧(Sig g a x y).2.2≤4000:=by
    have hsingle:ref3_SingleSize F l=some ((g.sw:Int),(g.sh:Int)):=c.Z.single
    have eta:∀ X:Option (Int×Int×Int),(call X fun y2=>some (y2.1,y2.2.1,y2.2.2))=X:=by
      intro X
      cases X <;> rfl
    have hst3:g.st=0∨g.st=1∨g.st=2:=by omega
    unfold ref3_PixelAt
    rw [hsingle,call_some,h8]
    simp only [eta]
    rcases hst3 with h | h | h
    · have e1:Sig g a x y=(a,x,y):=by unfold Sig; rw [if_pos h]
      rw [e1,h]
      refine ⟨rfl,?_,?_⟩
      · simp only; omega
      · simp only; omega
    · have e1:Sig g a x y=(decide (g.sw≤x),x % g.sw,y):=by unfold Sig; rw [if_neg (by omega),if_pos h]
      have hml:x % g.sw≤4000:=Nat.le_trans (Nat.mod_le _ _) (by omega)
      rw [e1,h]
      refine ⟨?_,hml,by simp only; omega⟩
      simp only [Int.cast_ofNat_Int,Int.reduceBEq,cond_false,beq_self_eq_true,cond_true,tmod_nat]
      rw [chk_pos (by omega)]
      congr 1
      rw [decide_eq_decide]
      omega
    · rw [h]
      simp only [Int.cast_ofNat_Int,Int.reduceBEq,cond_false]
      have hph:g.PH=2 * g.sh:=by unfold Geo.PH; rw [if_pos h]
      have hpw:g.PW=g.sw:=by unfold Geo.PW; rw [if_neg (by omega)]
      by_cases hys:g.sh≤y
      · have e1:Sig g a x y=(true,g.sw - 1 - x,2 * g.sh - 1 - y):=by unfold Sig; rw [if_neg (by omega),if_neg (by omega),if_pos hys]
        have w1:IntKind.i64.wrap ((g.sw:Int) - 1)=((g.sw - 1:Nat):Int):=wrap_pred (by omega) (by omega)
        have w2:IntKind.i64.wrap (((g.sw - 1:Nat):Int) - x)=((g.sw - 1 - x:Nat):Int):=by rw [wrap_id (by omega)]; omega
        have w3:IntKind.i64.wrap (2 * (g.sh:Int))=((2 * g.sh:Nat):Int):=by rw [wrap_id (by omega)]; omega
        have w4:IntKind.i64.wrap (((2 * g.sh:Nat):Int) - 1)=((2 * g.sh - 1:Nat):Int):=wrap_pred (by omega) (by omega)
        have w5:IntKind.i64.wrap (((2 * g.sh - 1:Nat):Int) - y)=((2 * g.sh - 1 - y:Nat):Int):=by rw [wrap_id (by omega)]; omega
        rw [e1,show decide ((y:Int) ≥ (g.sh:Int))=true from decide_eq_true (by omega),cond_true,w1,w2,w3,w4,w5]
        refine ⟨rfl,by simp only; omega,by simp only; omega⟩
      · have e1:Sig g a x y=(false,x,y):=by unfold Sig; rw [if_neg (by omega),if_neg (by omega),if_neg hys]
        rw [e1,show decide ((y:Int) ≥ (g.sh:Int))=false from decide_eq_false (by omega),cond_false]
        refine ⟨rfl,by simp only; omega,by simp only; omega⟩
  obtain ⟨hpix,b1,b2⟩:=hsig
  obtain ⟨q,hq,hhit,hmiss⟩:=PageAt_eq c (Sig g a x y).1 b1 b2
  refine ⟨q,hpix.trans hq,?_⟩
  -- what the list leaves there
  have hfold:∀ cst:UInt8,(∀ k,k < ps.length→(g.st=0→g.back k=a)→inB (g.ex k).1 (g.ex k).2.1 (g.dm k).1 (g.dm k).2 x y→pxT (ps.getD k pl0) g.W g.H (g.ex k).2.2 (x - (g.ex k).1) (y - (g.ex k).2.1)=cst)→((∃ k,k < ps.length∧(g.st=0→g.back k=a)∧inB (g.ex k).1 (g.ex k).2.1 (g.dm k).1 (g.dm k).2 x y)∨(0:UInt8)=cst) →
      (g.listS a 0 ps.length).foldl (ov ps g.W g.H x y) 0=cst:=by
    intro cst hv hor
    have hin:∀ k,k < ps.length→(inB (g.ent k).f1.toNat (g.ent k).f2.toNat (dimP (g.ent k).f3.toNat g.W g.H).1 (dimP (g.ent k).f3.toNat g.W g.H).2 x y↔inB (g.ex k).1 (g.ex k).2.1 (g.dm k).1 (g.dm k).2 x y):=by
      intro k hk
      obtain ⟨_,q2,_,_⟩:=ex_ok c hst (k:=k) (by omega)
      have e1:(g.ent k).f1.toNat=(g.ex k).1:=rfl
      have e2:(g.ent k).f2.toNat=(g.ex k).2.1:=rfl
      have e3:(g.ent k).f3.toNat=(g.ex k).2.2:=rfl
      rw [e1,e2,e3,q2]
    refine fold_ov (P:=fun e:S_ImposePlace=>inB e.f1.toNat e.f2.toNat (dimP e.f3.toNat g.W g.H).1 (dimP e.f3.toNat g.W g.H).2 x y) (v:=fun e=>pxT (ps.getD (e.f0.toNat - 1) pl0) g.W g.H e.f3.toNat (x - e.f1.toNat) (y - e.f2.toNat)) _ _ (fun e he hp=>?_) ?_
    · obtain ⟨k,hk,rfl,hb⟩:=mem_listS.1 he
      exact hv k hk hb ((hin k hk).1 hp)
    · rcases hor with ⟨k,hk,hb,hp⟩ | h
      · exact .inl ⟨g.ent k,mem_listS.2 ⟨k,hk,rfl,hb⟩,(hin k hk).2 hp⟩
      · exact .inr h
  -- a page whose rectangle is met lies in its cell
  have hcell:∀ k,k < 2 * g.N→inB (g.X k) (g.Y k) (g.dm k).1 (g.dm k).2 (Sig g a x y).2.1 (Sig g a x y).2.2→g.mg+g.col k * g.lw≤(Sig g a x y).2.1∧(Sig g a x y).2.1 < g.mg+g.col k * g.lw+g.lw∧g.mg+g.row k * g.lh≤(Sig g a x y).2.2∧(Sig g a x y).2.2 < g.mg+g.row k * g.lh+g.lh:=by
    intro k hk hb
    have:=gcell c hk
    unfold inB at hb
    omega
  by_cases hex:∃ i T col row,i < 2 * g.N∧PgOk g.C g.R odd (g.PG.getD i pg0) T col row∧(g.PG.getD i pg0).f0=(Sig g a x y).1∧g.mg+col * g.lw≤(Sig g a x y).2.1∧(Sig g a x y).2.1 < g.mg+col * g.lw+g.lw∧g.mg+row * g.lh≤(Sig g a x y).2.2∧(Sig g a x y).2.2 < g.mg+row * g.lh+g.lh
  case neg =>
    have hq0:=hmiss fun i T col row hi hp hs hin=>hex ⟨i,T,col,row,hi,hp,hs,hin⟩
    rw [hfold 0 (fun k hk hb hin=>?_) (.inr rfl),hq0]
    · rfl
    · exfalso
      have hk2:k < 2 * g.N:=by omega
      obtain ⟨hs,hb2⟩:=(ent_iff c hst hk2 hb hx hy pl0).1.1 hin
      exact hex ⟨k,_,_,_,hk2,gpage c hk2,hs,hcell k hk2 hb2⟩
  obtain ⟨i,T,col,row,hi,hp,hs,g1,g2,g3,g4⟩:=hex
  have hp':=gpage c hi
  have eT:T=g.T i:=by have:=hp.t.symm.trans hp'.t; omega
  have ec:col=g.col i:=by have:=hp.c.symm.trans hp'.c; omega
  have er:row=g.row i:=by have:=hp.r.symm.trans hp'.r; omega
  subst eT ec er
  have hqv:=hhit i _ _ _ hi hp hs g1 g2 g3 g4
  obtain ⟨aa,haa⟩:∃ aa,aa=(Sig g a x y).2.1 - (g.mg+g.col i * g.lw):=⟨_,rfl⟩
  obtain ⟨bb,hbb⟩:∃ bb,bb=(Sig g a x y).2.2 - (g.mg+g.row i * g.lh):=⟨_,rfl⟩
  rw [← haa,← hbb] at hqv
  have hfh:=c.hfh
  have hbox:=box_iff (p:=ps.getD i pl0) hp.bt (glw c hi) (c.left hi).1 (show g.hd+g.H≤g.fh by omega) (a:=aa) (b:=bb) (by omega) (by omega)
  have hinX:inB (g.X i) (g.Y i) (g.dm i).1 (g.dm i).2 (Sig g a x y).2.1 (Sig g a x y).2.2↔inB (boxP (g.T i) g.fw g.fh (g.left i) g.hd g.W g.H).1 (boxP (g.T i) g.fw g.fh (g.left i) g.hd g.W g.H).2 (dimP (g.T i) g.W g.H).1 (dimP (g.T i) g.W g.H).2 aa bb:=by
    unfold inB Geo.X Geo.Y Geo.dm
    constructor <;> intro h <;> omega
  -- any page that is met is this one
  have huni:∀ k,k < ps.length→(g.st=0→g.back k=a)→inB (g.ex k).1 (g.ex k).2.1 (g.dm k).1 (g.dm k).2 x y→k=i∧inB (g.X i) (g.Y i) (g.dm i).1 (g.dm i).2 (Sig g a x y).2.1 (Sig g a x y).2.2:=by
    intro k hk hb hin
    have hk2:k < 2 * g.N:=by omega
    obtain ⟨hks,hb2⟩:=(ent_iff c hst hk2 hb hx hy pl0).1.1 hin
    obtain ⟨k1,k2,k3,k4⟩:=hcell k hk2 hb2
    have hpk:=gpage c hk2
    have d1:g.col k=g.col i:=by
      rcases Nat.lt_trichotomy (g.col k) (g.col i) with h | h | h
      · have:=Nat.mul_le_mul_right g.lw (show g.col k+1≤g.col i from h)
        rw [Nat.add_mul,Nat.one_mul] at this
        omega
      · exact h
      · have:=Nat.mul_le_mul_right g.lw (show g.col i+1≤g.col k from h)
        rw [Nat.add_mul,Nat.one_mul] at this
        omega
    have d2:g.row k=g.row i:=by
      rcases Nat.lt_trichotomy (g.row k) (g.row i) with h | h | h
      · have:=Nat.mul_le_mul_right g.lh (show g.row k+1≤g.row i from h)
        rw [Nat.add_mul,Nat.one_mul] at this
        omega
      · exact h
      · have:=Nat.mul_le_mul_right g.lh (show g.row i+1≤g.row k from h)
        rw [Nat.add_mul,Nat.one_mul] at this
        omega
    have hki:k=i:=c.uniq k i hk2 hi (by rw [hs]; exact hks) (by rw [hpk.c,hp.c,d1]) (by rw [hpk.r,hp.r,d2])
    subst hki
    exact ⟨rfl,hb2⟩
  by_cases hin:inB (g.X i) (g.Y i) (g.dm i).1 (g.dm i).2 (Sig g a x y).2.1 (Sig g a x y).2.2
  case neg =>
    have hq0:q=(0,0,0):=by
      rw [hqv]
      unfold pageVal
      rw [if_neg]
      intro h
      exact hin (hinX.2 (hbox.1.2 h))
    rw [hfold 0 (fun k hk hb h=>absurd (huni k hk hb h).2 hin) (.inr rfl),hq0]
    rfl
  have hbk:=hbox.1.1 (hinX.1 hin)
  obtain ⟨u,hu⟩:∃ u,u=(backP (g.T i) g.lw g.lh aa bb).1 - g.left i:=⟨_,rfl⟩
  obtain ⟨v,hv⟩:∃ v,v=(backP (g.T i) g.lw g.lh aa bb).2 - g.hd:=⟨_,rfl⟩
  have hq1:q=(((i+1:Nat):Int),(u:Int),(v:Int)):=by
    rw [hqv]
    unfold pageVal
    rw [if_pos hbk,hu,hv]
    rfl
  have huv:u < g.W∧v < g.H:=by
    unfold inB at hbk
    rw [hu,hv]
    unfold Geo.left
    omega
  have hpx:=hbox.2 hbk
  rw [hq1]
  by_cases him:i < ps.length
  · have hb0:g.st=0→g.back i=a:=by
      intro h0
      have e1:Sig g a x y=(a,x,y):=by unfold Sig; rw [if_pos h0]
      have:g.back i=(Sig g a x y).1:=hs
      rw [this,e1]
    have hei:=ent_iff c hst hi hb0 hx hy (ps.getD i pl0)
    have hmet:=hei.1.2 ⟨hs,hin⟩
    have hval:pxT (ps.getD i pl0) g.W g.H (g.ex i).2.2 (x - (g.ex i).1) (y - (g.ex i).2.1)=(ps.getD i pl0).f2.getD (v * g.W+u) 0:=by
      rw [hei.2 hmet]
      have e1:(Sig g a x y).2.1 - g.X i=aa - (boxP (g.T i) g.fw g.fh (g.left i) g.hd g.W g.H).1:=by unfold Geo.X; omega
      have e2:(Sig g a x y).2.2 - g.Y i=bb - (boxP (g.T i) g.fw g.fh (g.left i) g.hd g.W g.H).2:=by unfold Geo.Y; omega
      rw [e1,e2]
      refine hpx.trans ?_
      rw [hu,hv]
      rfl
    rw [hfold ((ps.getD i pl0).f2.getD (v * g.W+u) 0) (fun k hk hb h=>by
      obtain ⟨rfl,_⟩:=huni k hk hb h
      exact hval) (.inl ⟨i,him,hb0,hmet⟩)]
    simp only
    have w0:IntKind.i64.wrap (((i+1:Nat):Int) - 1)=(i:Int):=by rw [wrap_id (by omega)]; omega
    rw [show decide (((i+1:Nat):Int) > 0)=true from decide_eq_true (by omega),show decide (((i+1:Nat):Int)≤((ps.length:Nat):Int))=true from decide_eq_true (by omega),cond_true,cond_true,w0,chk_in him]
    have hpg:ps.getD ((i:Nat):Int).toNat (S_Plate.mk 0 0 [])=ps.getD i pl0:=rfl
    rw [hpg,pix_eq F (hps i him) huv.1 huv.2,call_some]
  · rw [hfold 0 (fun k hk hb h=>by
      obtain ⟨rfl,_⟩:=huni k hk hb h
      exact absurd hk him) (.inr rfl)]
    simp only
    rw [show decide (((i+1:Nat):Int) > 0)=true from decide_eq_true (by omega),show decide (((i+1:Nat):Int)≤((ps.length:Nat):Int))=false from decide_eq_false (by omega),cond_true,cond_false]
    rfl
end Go.Vm.BinG
