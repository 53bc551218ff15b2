/-
  IMPOSE,PLAIN,part 3: the page at a place of a plate.
-/
import Derived.Test.YteidenpelbooeaaBinLq
namespace Go.Vm.BinG
theorem tdiv_nat (a b:Nat):(a:Int).tdiv b=((a / b:Nat):Int):=by
  rw [Int.tdiv_eq_ediv_of_nonneg (by omega)]
  exact (Int.natCast_ediv a b).symm
theorem tmod_nat (a b:Nat):(a:Int).tmod b=((a % b:Nat):Int):=by
  rw [Int.tmod_eq_emod_of_nonneg (by omega)]
  exact (Int.natCast_emod a b).symm
/-- The inner margin of a page. -/
def innerP (N sp cr k:Nat):Nat:=sp - cr * min (N - 1 - k / 2) (k / 2)
def leftP (N sp cr fw W k:Nat):Nat:=if k % 2=1 then fw - innerP N sp cr k - W else innerP N sp cr k
/-- What is known of a layout. -/
structure Ctx (F:Nat) (l:S_ImposeLayout) (C R N:Nat) (PG:List S_FoldPage) (odd:Bool) (W H hd fo sp mg cr fw fh lw lh:Nat):Prop where
  hF:2000000≤F
  hC:l.f0.f0=C
  hR:l.f0.f1=R
  hC8:1≤C∧C≤8
  hR8:1≤R∧R≤8
  hN:N=R * C
  hN2:1≤N∧N≤32
  len:PG.length=2 * N
  ew:l.f1=W
  eh:l.f2=H
  ehd:l.f3=hd
  efo:l.f4=fo
  esp:l.f5=sp
  ecr:l.f7=cr
  bw:1≤W∧W≤256
  bh:1≤H∧H≤256
  bd:hd≤64∧fo≤64∧sp≤64
  bcr:cr≤8
  creep:∀ k,k < 2 * N→cr * min (N - 1 - k / 2) (k / 2)≤sp
  hfw:fw=W+fo+sp
  hfh:fh=H+2 * hd
  Z:Siz F l C R odd fw fh lw lh mg
  lw1:1≤lw∧lw≤384
  lh1:1≤lh∧lh≤384
  page:∀ k,k < 2 * N→∃ T col row,PgOk C R odd (PG.getD k pg0) T col row
  uniq:∀ j k,j < 2 * N→k < 2 * N→(PG.getD j pg0).f0=(PG.getD k pg0).f0→(PG.getD j pg0).f1=(PG.getD k pg0).f1→(PG.getD j pg0).f2=(PG.getD k pg0).f2→j=k
  pages:fold_Pages F l.f0=some (PG,0)
  read:ref3_Read F l.f0=some (PG,0)
variable {F:Nat} {l:S_ImposeLayout} {C R N:Nat} {PG:List S_FoldPage} {odd:Bool} {W H hd fo sp mg cr fw fh lw lh:Nat}
theorem Ctx.left (c:Ctx F l C R N PG odd W H hd fo sp mg cr fw fh lw lh) {k:Nat} (hk:k < 2 * N):leftP N sp cr fw W k+W≤fw∧innerP N sp cr k≤sp:=by
  have h1:=c.creep k hk
  have h2:=c.hfw
  unfold leftP innerP
  split <;> omega
/-- The page at a place of its leaf. -/
def pageVal (N sp cr fw W H hd lw lh:Nat) (k T a b:Nat):Int×Int×Int :=
  if inB (leftP N sp cr fw W k) hd W H (backP T lw lh a b).1 (backP T lw lh a b).2 then (((k+1:Nat):Int),(((backP T lw lh a b).1 - leftP N sp cr fw W k:Nat):Int),(((backP T lw lh a b).2 - hd:Nat):Int)) else (0,0,0)
/-- Whether a page lies on a side,in a cell. -/
def mt (P:S_FoldPage) (s:Bool) (col row:Nat):Bool:=P.f0 == s && P.f1 == (col:Int) && P.f2 == (row:Int)
theorem PageAt_L0_miss (c:Ctx F l C R N PG odd W H hd fo sp mg cr fw fh lw lh) (s:Bool) {X Y:Nat} (hX:mg≤X∧X≤4000) (hY:mg≤Y∧Y≤4000) {i n:Nat} (hi:i < 2 * N) (hm:mt (PG.getD i pg0) s ((X - mg) / lw) ((Y - mg) / lh)=false) :
    ref3_PageAt_L0 F l PG s X Y (lw,lh) (n+1) i=ref3_PageAt_L0 F l PG s X Y (lw,lh) n ((i+1:Nat):Int):=by
  have h1:=c.lw1
  have h2:=c.lh1
  have h3:=c.len
  have h4:=c.hN2
  have hb:=c.Z.bmg
  have e1:IntKind.i64.wrap ((X:Int) - l.f6)=((X - mg:Nat):Int):=by rw [c.Z.emg,wrap_id (by omega)]; omega
  have e2:IntKind.i64.wrap ((Y:Int) - l.f6)=((Y - mg:Nat):Int):=by rw [c.Z.emg,wrap_id (by omega)]; omega
  have hg:PG.getD ((i:Nat):Int).toNat (S_FoldPage.mk false 0 0 0)=PG.getD i pg0:=rfl
  have dv1:=Nat.div_le_self (X - mg) lw
  have dv2:=Nat.div_le_self (Y - mg) lh
  have wd:∀ q:Nat,q≤4000→IntKind.i64.wrap (q:Int)=q:=fun q h=>wrap_id (by omega)
  have wd1:=wd _ (Nat.le_trans dv1 (show X - mg≤4000 by omega))
  have wd2:=wd _ (Nat.le_trans dv2 (show Y - mg≤4000 by omega))
  rw [ref3_PageAt_L0,dec_lt (show i < PG.length by omega),cond_true,hg]
  simp only [e1,e2,tdiv_nat,tmod_nat,wd1,wd2,lett_eq]
  rw [chk_in (show i < PG.length by omega),chk_pos (fun _=>by omega),chk_pos (fun _=>by omega)]
  have hz:(bif (bif (!((PG.getD i pg0).f0 == s)) then true else ((PG.getD i pg0).f1 != (((X - mg) / lw:Nat):Int))) then true else ((PG.getD i pg0).f2 != (((Y - mg) / lh:Nat):Int)))=true:=by
    unfold mt at hm
    rw [or_cond,or_cond]
    cases h5:((PG.getD i pg0).f0 == s)
    · rfl
    · cases h6:((PG.getD i pg0).f1 == (((X - mg) / lw:Nat):Int))
      · simp only [bne,h6]; rfl
      · cases h7:((PG.getD i pg0).f2 == (((Y - mg) / lh:Nat):Int))
        · simp only [bne,h6,h7]; rfl
        · rw [h5,h6,h7] at hm
          cases hm
  rw [hz,cond_true,callE_go,wrap_succ (by omega)]
theorem PageAt_L0_hit (c:Ctx F l C R N PG odd W H hd fo sp mg cr fw fh lw lh) (s:Bool) {X Y:Nat} (hX:mg≤X∧X≤4000) (hY:mg≤Y∧Y≤4000) {i n T col row:Nat} (hi:i < 2 * N) (hp:PgOk C R odd (PG.getD i pg0) T col row) (hm:mt (PG.getD i pg0) s ((X - mg) / lw) ((Y - mg) / lh)=true) :
    ref3_PageAt_L0 F l PG s X Y (lw,lh) (n+1) i=some (.esc (pageVal N sp cr fw W H hd lw lh i T ((X - mg) % lw) ((Y - mg) % lh))):=by
  have h1:=c.lw1
  have h2:=c.lh1
  have h3:=c.len
  have h4:=c.hN2
  have hb:=c.Z.bmg
  have hF:=c.hF
  have hcr:=c.creep i hi
  have bfw:=c.Z.bfw
  have bfh:=c.Z.bfh
  have bw:=c.bw
  have bh:=c.bh
  have bd:=c.bd
  have e1:IntKind.i64.wrap ((X:Int) - l.f6)=((X - mg:Nat):Int):=by rw [c.Z.emg,wrap_id (by omega)]; omega
  have e2:IntKind.i64.wrap ((Y:Int) - l.f6)=((Y - mg:Nat):Int):=by rw [c.Z.emg,wrap_id (by omega)]; omega
  have hg:PG.getD ((i:Nat):Int).toNat (S_FoldPage.mk false 0 0 0)=PG.getD i pg0:=rfl
  have dv1:=Nat.div_le_self (X - mg) lw
  have dv2:=Nat.div_le_self (Y - mg) lh
  have wd:∀ q:Nat,q≤4000→IntKind.i64.wrap (q:Int)=q:=fun q h=>wrap_id (by omega)
  have wd1:=wd _ (Nat.le_trans dv1 (show X - mg≤4000 by omega))
  have wd2:=wd _ (Nat.le_trans dv2 (show Y - mg≤4000 by omega))
  have hlw:(lw,lh)=bif T % 2 == 1 then (fh,fw) else (fw,fh):=by rw [hp.par]; exact c.Z.lwh
  have ha:(X - mg) % lw < lw:=Nat.mod_lt _ (by omega)
  have hb2:(Y - mg) % lh < lh:=Nat.mod_lt _ (by omega)
  obtain ⟨f,hf⟩:∃ f,F=f+5:=⟨F - 5,by omega⟩
  have hback:=PageAt_L2_eq F PG i hp.bt hp.t hlw (by omega) (by omega) ha hb2 f
  rw [← hf] at hback
  have hz:(bif (bif (!((PG.getD i pg0).f0 == s)) then true else ((PG.getD i pg0).f1 != (((X - mg) / lw:Nat):Int))) then true else ((PG.getD i pg0).f2 != (((Y - mg) / lh:Nat):Int)))=false:=by
    unfold mt at hm
    simp only [Bool.and_eq_true] at hm
    rw [or_cond,or_cond,hm.1.1]
    simp only [bne,hm.1.2,hm.2]
    rfl
  obtain ⟨u,hu⟩:∃ u,(backP T lw lh ((X - mg) % lw) ((Y - mg) % lh)).1=u:=⟨_,rfl⟩
  obtain ⟨v,hv⟩:∃ v,(backP T lw lh ((X - mg) % lw) ((Y - mg) % lh)).2=v:=⟨_,rfl⟩
  have hub:u≤384∧v≤384:=by
    have hT:=hp.bt
    rw [← hu,← hv]
    match T,hT with
    | 0,_=>simp only [backP]; omega
    | 1,_=>simp only [backP]; omega
    | 2,_=>simp only [backP]; omega
    | 3,_=>simp only [backP]; omega
  rw [hu,hv] at hback
  have d2:(2:Int)=((2:Nat):Int):=rfl
  have hlen2:2 * N / 2=N:=by omega
  have w1:IntKind.i64.wrap (((PG.length:Nat):Int).tdiv 2)=(N:Int):=by rw [h3,d2,tdiv_nat,hlen2,wrap_id (by omega)]
  have w2:IntKind.i64.wrap ((N:Int) - 1)=((N - 1:Nat):Int):=wrap_pred (by omega) (by omega)
  have w3:IntKind.i64.wrap ((i:Int).tdiv 2)=((i / 2:Nat):Int):=by rw [d2,tdiv_nat,wrap_id (by omega)]
  have w4:IntKind.i64.wrap (((N - 1:Nat):Int) - ((i / 2:Nat):Int))=((N - 1 - i / 2:Nat):Int):=by rw [wrap_id (by omega)]; omega
  have w5:(if ((N - 1 - i / 2:Nat):Int) < ((i / 2:Nat):Int) then ((N - 1 - i / 2:Nat):Int) else ((i / 2:Nat):Int))=((min (N - 1 - i / 2) (i / 2):Nat):Int):=by
    split <;> omega
  have hmn:min (N - 1 - i / 2) (i / 2)≤32:=by omega
  have hpr:cr * min (N - 1 - i / 2) (i / 2)≤8 * 32:=Nat.mul_le_mul c.bcr hmn
  have w6:IntKind.i64.wrap ((sp:Int) - IntKind.i64.wrap ((cr:Int) * ((min (N - 1 - i / 2) (i / 2):Nat):Int)))=((innerP N sp cr i:Nat):Int):=by
    rw [← Int.natCast_mul,wrap_id (x:=((cr * min (N - 1 - i / 2) (i / 2):Nat):Int)) (by omega),wrap_id (by omega)]
    unfold innerP
    omega
  have hin:=c.left hi
  have hfw:=c.hfw
  have w7:(bif ((i:Int).tmod 2 == 1) then some (IntKind.i64.wrap (IntKind.i64.wrap ((fw:Int) - ((innerP N sp cr i:Nat):Int)) - (W:Int))) else some ((innerP N sp cr i:Nat):Int))=some ((leftP N sp cr fw W i:Nat):Int):=by
    rw [d2,tmod_nat]
    unfold leftP
    by_cases ho:i % 2=1
    · rw [if_pos ho,ho]
      simp only [Int.cast_ofNat_Int,beq_self_eq_true,cond_true,Option.some.injEq]
      rw [wrap_id (x:=(fw:Int) - ((innerP N sp cr i:Nat):Int)) (by omega),wrap_id (by omega)]
      omega
    · have h0:i % 2=0:=by omega
      rw [if_neg ho,h0]
      rfl
  have hll:leftP N sp cr fw W i≤384:=by omega
  have w8:IntKind.i64.wrap (((leftP N sp cr fw W i:Nat):Int)+(W:Int))=((leftP N sp cr fw W i+W:Nat):Int):=by rw [wrap_id (by omega)]; omega
  have w9:IntKind.i64.wrap ((hd:Int)+(H:Int))=((hd+H:Nat):Int):=by rw [wrap_id (by omega)]; omega
  rw [ref3_PageAt_L0,dec_lt (show i < PG.length by omega),cond_true,hg]
  simp only [e1,e2,tdiv_nat,tmod_nat,wd1,wd2,lett_eq]
  rw [chk_in (show i < PG.length by omega),chk_pos (fun _=>by omega),chk_pos (fun _=>by omega),hz,cond_false,chk_pos (by omega),chk_pos (by omega),hback,call_some]
  simp only [w1,w2,w3,w4,w5,c.esp,c.ecr,c.ew,c.eh,c.ehd,w6,w7,call_some,w8,w9,or_cond]
  unfold pageVal
  rw [hu,hv]
  by_cases hbx:inB (leftP N sp cr fw W i) hd W H u v
  · rw [if_pos hbx]
    unfold inB at hbx
    have hb:(((decide ((u:Int) < ((leftP N sp cr fw W i:Nat):Int)) || decide ((u:Int) ≥ ((leftP N sp cr fw W i+W:Nat):Int))) || decide ((v:Int) < (hd:Int))) || decide ((v:Int) ≥ ((hd+H:Nat):Int)))=false:=by
      rw [← Bool.not_eq_true]
      simp only [Bool.or_eq_true,decide_eq_true_eq]
      omega
    have g1:IntKind.i64.wrap ((u:Int) - ((leftP N sp cr fw W i:Nat):Int))=((u - leftP N sp cr fw W i:Nat):Int):=by rw [wrap_id (by omega)]; omega
    have g2:IntKind.i64.wrap ((v:Int) - (hd:Int))=((v - hd:Nat):Int):=by rw [wrap_id (by omega)]; omega
    rw [hb,cond_false,g1,g2,wrap_succ (by omega)]
    rfl
  · rw [if_neg hbx]
    unfold inB at hbx
    have hb:(((decide ((u:Int) < ((leftP N sp cr fw W i:Nat):Int)) || decide ((u:Int) ≥ ((leftP N sp cr fw W i+W:Nat):Int))) || decide ((v:Int) < (hd:Int))) || decide ((v:Int) ≥ ((hd+H:Nat):Int)))=true:=by
      simp only [Bool.or_eq_true,decide_eq_true_eq]
      omega
    rw [hb,cond_true]
    rfl
/-- The page at a place of a single sheet: none,or the one whose leaf lies there. -/
theorem PageAt_eq (c:Ctx F l C R N PG odd W H hd fo sp mg cr fw fh lw lh) (s:Bool) {X Y:Nat} (hX:X≤4000) (hY:Y≤4000) :
    ∃ q,ref3_PageAt F l PG s X Y=some q ∧
      (∀ i T col row,i < 2 * N→PgOk C R odd (PG.getD i pg0) T col row→(PG.getD i pg0).f0=s→mg+col * lw≤X→X < mg+col * lw+lw→mg+row * lh≤Y→Y < mg+row * lh+lh→q=pageVal N sp cr fw W H hd lw lh i T (X - (mg+col * lw)) (Y - (mg+row * lh))) ∧
      ((∀ i T col row,i < 2 * N→PgOk C R odd (PG.getD i pg0) T col row→(PG.getD i pg0).f0=s→¬ (mg+col * lw≤X∧X < mg+col * lw+lw∧mg+row * lh≤Y∧Y < mg+row * lh+lh))→q=(0,0,0)):=by
  have h1:=c.lw1
  have h2:=c.lh1
  have h3:=c.len
  have h4:=c.hN2
  have hb:=c.Z.bmg
  have hF:=c.hF
  have m1:C * lw≤8 * 384:=Nat.mul_le_mul c.hC8.2 h1.2
  have m2:R * lh≤8 * 384:=Nat.mul_le_mul c.hR8.2 h2.2
  have w1:IntKind.i64.wrap (l.f0.f0 * (lw:Int))=((C * lw:Nat):Int):=by rw [c.hC,← Int.natCast_mul,wrap_id (by omega)]
  have w2:IntKind.i64.wrap (l.f0.f1 * (lh:Int))=((R * lh:Nat):Int):=by rw [c.hR,← Int.natCast_mul,wrap_id (by omega)]
  have e1:IntKind.i64.wrap ((X:Int) - l.f6)=(X:Int) - mg:=by rw [c.Z.emg,wrap_id (by omega)]
  have e2:IntKind.i64.wrap ((Y:Int) - l.f6)=(Y:Int) - mg:=by rw [c.Z.emg,wrap_id (by omega)]
  unfold ref3_PageAt
  rw [c.Z.leaf,call_some]
  simp only [lett_eq,or_cond,e1,e2,w1,w2]
  by_cases hout:X < mg∨Y < mg∨C * lw≤X - mg∨R * lh≤Y - mg
  · have hz:(((decide ((X:Int) - mg < 0) || decide ((Y:Int) - mg < 0)) || decide ((X:Int) - mg ≥ ((C * lw:Nat):Int))) || decide ((Y:Int) - mg ≥ ((R * lh:Nat):Int)))=true:=by
      simp only [Bool.or_eq_true,decide_eq_true_eq]
      omega
    rw [hz,cond_true]
    refine ⟨_,rfl,fun i T col row _ hp _ g1 g2 g3 g4=>?_,fun _=>rfl⟩
    exfalso
    have d1:=Nat.mul_le_mul_right lw (show col+1≤C from hp.bc)
    have d2:=Nat.mul_le_mul_right lh (show row+1≤R from hp.br)
    rw [Nat.add_mul,Nat.one_mul] at d1 d2
    omega
  · have hz:(((decide ((X:Int) - mg < 0) || decide ((Y:Int) - mg < 0)) || decide ((X:Int) - mg ≥ ((C * lw:Nat):Int))) || decide ((Y:Int) - mg ≥ ((R * lh:Nat):Int)))=false:=by
      rw [← Bool.not_eq_true]
      simp only [Bool.or_eq_true,decide_eq_true_eq]
      omega
    rw [hz,cond_false]
    have hcell:∀ i T col row,PgOk C R odd (PG.getD i pg0) T col row→(PG.getD i pg0).f0=s→((mg+col * lw≤X∧X < mg+col * lw+lw∧mg+row * lh≤Y∧Y < mg+row * lh+lh)↔mt (PG.getD i pg0) s ((X - mg) / lw) ((Y - mg) / lh)=true):=by
      intro i T col row hp hs
      have q1:(X - mg) / lw=col↔(col * lw≤X - mg∧X - mg < col * lw+lw):=by
        rw [Nat.div_eq_iff (by omega)]
        constructor <;> intro h <;> omega
      have q2:(Y - mg) / lh=row↔(row * lh≤Y - mg∧Y - mg < row * lh+lh):=by
        rw [Nat.div_eq_iff (by omega)]
        constructor <;> intro h <;> omega
      unfold mt
      simp only [Bool.and_eq_true,beq_iff_eq,hs,hp.c,hp.r,true_and]
      constructor
      · intro h
        have:=q1.2 (by omega)
        have:=q2.2 (by omega)
        omega
      · intro h
        have g1:=q1.1 (by omega)
        have g2:=q2.1 (by omega)
        omega
    have miss:∀ (m i n:Nat),i+m≤2 * N→(∀ j,i≤j→j < i+m→mt (PG.getD j pg0) s ((X - mg) / lw) ((Y - mg) / lh)=false)→ref3_PageAt_L0 F l PG s X Y (lw,lh) (n+m) i=ref3_PageAt_L0 F l PG s X Y (lw,lh) n ((i+m:Nat):Int):=by
      intro m
      induction m with
      | zero=>intro i n _ _; rfl
      | succ m ih =>
        intro i n hi hj
        rw [show n+(m+1)=(n+m)+1 from rfl,PageAt_L0_miss c s (by omega) (by omega) (by omega) (hj i (by omega) (by omega)),ih (i+1) n (by omega) (fun j h1 h2=>hj j (by omega) (by omega))]
        rw [show i+1+m=i+(m+1) from by omega]
    by_cases hex:∃ i,i < 2 * N∧mt (PG.getD i pg0) s ((X - mg) / lw) ((Y - mg) / lh)=true
    · obtain ⟨i,hi,him⟩:=hex
      obtain ⟨T,col,row,hp⟩:=c.page i hi
      have hs:(PG.getD i pg0).f0=s:=by
        unfold mt at him
        simp only [Bool.and_eq_true,beq_iff_eq] at him
        exact him.1.1
      have hun:∀ j,j < 2 * N→mt (PG.getD j pg0) s ((X - mg) / lw) ((Y - mg) / lh)=true→j=i:=by
        intro j hj hjm
        unfold mt at him hjm
        simp only [Bool.and_eq_true,beq_iff_eq] at him hjm
        exact c.uniq j i hj hi (by rw [him.1.1,hjm.1.1]) (by rw [him.1.2,hjm.1.2]) (by rw [him.2,hjm.2])
      obtain ⟨f,hf⟩:∃ f,F=(f+1)+i:=⟨F - 1 - i,by omega⟩
      have hm1:=miss i 0 (f+1) (by omega) (fun j _ hj=>by
        cases hjm:mt (PG.getD j pg0) s ((X - mg) / lw) ((Y - mg) / lh)
        · rfl
        · have:=hun j (by omega) hjm
          omega)
      rw [Nat.zero_add,PageAt_L0_hit c s (by omega) (by omega) hi hp him,← hf] at hm1
      rw [show (0:Int)=((0:Nat):Int) from rfl,hm1]
      refine ⟨_,rfl,fun i' T' col' row' hi' hp' hs' g1 g2 g3 g4=>?_,fun hno=>?_⟩
      · have hm':=(hcell i' T' col' row' hp' hs').1 ⟨g1,g2,g3,g4⟩
        have hii:=hun i' hi' hm'
        subst hii
        have hT:T'=T:=by have:=hp'.t.symm.trans hp.t; omega
        subst hT
        have q1:(X - mg) % lw=X - (mg+col' * lw):=by
          have hd:(X - mg) / lw=col':=by
            rw [Nat.div_eq_iff (by omega)]
            omega
          have:=Nat.div_add_mod (X - mg) lw
          rw [hd,Nat.mul_comm] at this
          omega
        have q2:(Y - mg) % lh=Y - (mg+row' * lh):=by
          have hd:(Y - mg) / lh=row':=by
            rw [Nat.div_eq_iff (by omega)]
            omega
          have:=Nat.div_add_mod (Y - mg) lh
          rw [hd,Nat.mul_comm] at this
          omega
        rw [q1,q2]
      · exact absurd ((hcell i T col row hp hs).2 him) (hno i T col row hi hp hs)
    · obtain ⟨f,hf⟩:∃ f,F=(f+1)+2 * N:=⟨F - 1 - 2 * N,by omega⟩
      have hall:∀ j,j < 2 * N→mt (PG.getD j pg0) s ((X - mg) / lw) ((Y - mg) / lh)=false:=by
        intro j hj
        cases hjm:mt (PG.getD j pg0) s ((X - mg) / lw) ((Y - mg) / lh)
        · rfl
        · exact absurd ⟨j,hj,hjm⟩ hex
      have hm1:=miss (2 * N) 0 (f+1) (by omega) (fun j _ hj=>hall j (by omega))
      have hstop:ref3_PageAt_L0 F l PG s X Y (lw,lh) (f+1) ((0+2 * N:Nat):Int)=some (.go ()):=by
        rw [ref3_PageAt_L0,show decide (((0+2 * N:Nat):Int) < ((PG.length:Nat):Int))=false from decide_eq_false (by omega),cond_false]
      rw [hstop,← hf] at hm1
      rw [show (0:Int)=((0:Nat):Int) from rfl,hm1]
      refine ⟨_,rfl,fun i' T' col' row' hi' hp' hs' g1 g2 g3 g4=>?_,fun _=>rfl⟩
      have:=(hcell i' T' col' row' hp' hs').1 ⟨g1,g2,g3,g4⟩
      rw [hall i' hi'] at this
      cases this
end Go.Vm.BinG
