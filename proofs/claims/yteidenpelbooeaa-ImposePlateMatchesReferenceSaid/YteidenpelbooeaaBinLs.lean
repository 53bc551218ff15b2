/-
  IMPOSE,PLAIN,part 4: what is known of a layout; the places of its pages.
-/
import Derived.Test.YteidenpelbooeaaBinLr
import Derived.Test.YteidenpelbooeaaBinLo
namespace Go.Vm.BinG
theorem pgs_get (C turn:Int):∀ (X:List S_FoldLeaf) (j:Nat) (x:S_FoldLeaf),X[j]? = some x→(X.flatMap (pgs C turn)).getD (2 * j) pg0=pg C turn x (!(x.f2 == x.f3)) x.f3∧(X.flatMap (pgs C turn)).getD (2 * j+1) pg0=pg C turn x (x.f2 == x.f3) (!(x.f3 == (turn.tmod 2 == 1)))
  | [],_,_,h=>by simp at h
  | y :: X,0,x,h=>by
    simp at h
    subst h
    exact ⟨rfl,rfl⟩
  | y :: X,j+1,x,h=>by
    have ih:=pgs_get C turn X j x (by simpa using h)
    rw [List.flatMap_cons]
    have e1:2 * (j+1)=(2 * j)+2:=by omega
    rw [e1]
    exact ih
theorem uniq_of {C R:Nat} {L:List Lf} {I:List Nat} {turn:Int} (hC:1≤C) (hI:I.Perm (List.range (R * C))) {PG:List S_FoldPage} (hPG:PG=(I.map (leafOf C L)).flatMap (pgs C turn)) {j k:Nat} (hj:j < 2 * (R * C)) (hk:k < 2 * (R * C))
    (h0:(PG.getD j pg0).f0=(PG.getD k pg0).f0) (h1:(PG.getD j pg0).f1=(PG.getD k pg0).f1) (h2:(PG.getD j pg0).f2=(PG.getD k pg0).f2):j=k:=by
  have hl:I.length=R * C:=by rw [hI.length_eq,List.length_range]
  have hnd:I.Nodup:=hI.nodup_iff.2 List.nodup_range
  have page:∀ i,i < 2 * (R * C)→∃ (a:Nat) (ha:i / 2 < I.length) (back half:Bool),I[i / 2]=a∧PG.getD i pg0=pg C turn (leafOf C L a) back half∧(back=if i % 2=0 then !((leafOf C L a).f2 == (leafOf C L a).f3) else ((leafOf C L a).f2 == (leafOf C L a).f3)):=by
    intro i hi
    have ha:i / 2 < I.length:=by omega
    have hx:(I.map (leafOf C L))[i / 2]? = some (leafOf C L I[i / 2]):=by rw [List.getElem?_map,List.getElem?_eq_getElem ha]; rfl
    obtain ⟨g1,g2⟩:=pgs_get C turn _ _ _ hx
    rw [← hPG] at g1 g2
    by_cases ho:i % 2=0
    · rw [show 2 * (i / 2)=i from by omega] at g1
      exact ⟨_,ha,_,_,rfl,g1,by rw [if_pos ho]⟩
    · rw [show 2 * (i / 2)+1=i from by omega] at g2
      exact ⟨_,ha,_,_,rfl,g2,by rw [if_neg ho]⟩
  obtain ⟨a,ha,ba,fa,ea,pa,qa⟩:=page j hj
  obtain ⟨b,hb,bb,fb,eb,pb,qb⟩:=page k hk
  rw [pa,pb] at h0 h1 h2
  have hbb:ba=bb:=h0
  subst hbb
  have hda:a / C=b / C:=by
    have:((a / C:Nat):Int)=((b / C:Nat):Int):=h2
    exact_mod_cast this
  have hma:a % C=b % C:=by
    have m1:a % C < C:=Nat.mod_lt _ (by omega)
    have m2:b % C < C:=Nat.mod_lt _ (by omega)
    cases ba
    · have:((a % C:Nat):Int)=((b % C:Nat):Int):=h1
      exact_mod_cast this
    · have:(C:Int) - 1 - ((a % C:Nat):Int)=(C:Int) - 1 - ((b % C:Nat):Int):=h1
      omega
  have hab:a=b:=by
    rw [← Nat.div_add_mod a C,← Nat.div_add_mod b C,hda,hma]
  subst hab
  have hidx:j / 2=k / 2:=(List.getElem_inj hnd).1 (ea.trans eb.symm)
  rw [qb] at qa
  by_cases h3:j % 2=0 <;> by_cases h4:k % 2=0
  · omega
  · rw [if_pos h3,if_neg h4] at qa
    cases hb:((leafOf C L a).f2 == (leafOf C L a).f3) <;> rw [hb] at qa <;> cases qa
  · rw [if_neg h3,if_pos h4] at qa
    cases hb:((leafOf C L a).f2 == (leafOf C L a).f3) <;> rw [hb] at qa <;> cases qa
  · omega
/-- A layout without an error. -/
theorem ctx_of {F:Nat} (hF:2000000≤F) {l:S_ImposeLayout} (he:ref3_LayoutError F l=some 0) :
    ∃ (C R N:Nat) (PG:List S_FoldPage) (odd:Bool) (W H hd fo sp mg cr fw fh lw lh:Nat) (z:Int×Int),Ctx F l C R N PG odd W H hd fo sp mg cr fw fh lw lh∧impose_Check F l=some 0∧(0≤l.f8∧l.f8≤2)∧ref3_PlateSize F l=some z∧impose_size F l=some z∧z.1≤1024∧z.2≤1024:=by
  obtain ⟨e,h1,h2,h3⟩:=check_main (F:=F) (by omega) l
  rw [he] at h2
  have:e=0:=(Option.some.inj h2).symm
  subst this
  obtain ⟨C,R,PG,hC,hR,hC8,hR8,hRC,hPG,h8,h9,L,I,turn,hPGe,hI,ht0,ht3⟩:=h3 rfl
  have hpos1:1≤R * C:=by
    have:=Nat.mul_le_mul hR8.1 hC8.1
    omega
  have hpos:0 < PG.length:=by omega
  obtain ⟨W,H,hd,fo,sp,mg,z,Ly⟩:=lay_of (C:=C) (R:=R) h9 he
  obtain ⟨fw,fh,lw,lh,hfw,hfh,Z0⟩:=siz_of Ly hC hR hC8 hR8 hpos h8 h9
  have hpage:∀ k,k < 2 * (R * C)→∃ T col row,PgOk C R (turn.tmod 2 == 1) (PG.getD k pg0) T col row:=by
    intro k hk
    refine pg_ok (L:=L) (I:=I) hC8 ⟨ht0,ht3⟩ hI ?_
    rw [← hPGe,List.getD_eq_getElem?_getD,List.getElem?_eq_getElem (by omega)]
    exact List.getElem_mem _
  have hodd:((PG.getD 0 pg0).f3.tmod 2 == 1)=(turn.tmod 2 == 1):=by
    obtain ⟨T,col,row,hp⟩:=hpage 0 (by omega)
    rw [hp.t,tmod_par,hp.par]
  rw [hodd] at Z0
  have g1:=Z0.lwh
  have g2:=Z0.bfw
  have g3:=Z0.bfh
  have hlw:(1≤lw∧lw≤384)∧(1≤lh∧lh≤384):=by
    cases hb:(turn.tmod 2 == 1) <;> rw [hb] at g1 <;> simp at g1 <;> omega
  obtain ⟨z',hz1,hz2⟩:=size_eq l PG hpos h8 h9
  have hzz:z'=z:=Option.some.inj (hz2.symm.trans Ly.size)
  subst hzz
  obtain ⟨cr,hcr⟩:∃ cr:Nat,l.f7=cr:=⟨l.f7.toNat,by have:=Ly.cr; omega⟩
  have hcr8:cr≤8:=by have:=Ly.cr; omega
  have hcreep:cr * ((R * C - 1) / 2)≤sp:=by
    have hc:=Ly.creep
    have hm:cr * ((R * C - 1) / 2)≤8 * 32:=Nat.mul_le_mul hcr8 (by omega)
    have e1:IntKind.i64.wrap ((PG.length:Int).tdiv 2)=((R * C:Nat):Int):=by
      rw [hPG,show (2:Int)=((2:Nat):Int) from rfl,tdiv_nat,show 2 * (R * C) / 2=R * C from by omega,wrap_id (by omega)]
    have e2:IntKind.i64.wrap (((R * C:Nat):Int) - 1)=((R * C - 1:Nat):Int):=wrap_pred (by omega) (by omega)
    have e3:IntKind.i64.wrap (((R * C - 1:Nat):Int).tdiv 2)=(((R * C - 1) / 2:Nat):Int):=by rw [show (2:Int)=((2:Nat):Int) from rfl,tdiv_nat,wrap_id (by omega)]
    have e4:IntKind.i64.wrap ((cr:Int) * (((R * C - 1) / 2:Nat):Int))=((cr * ((R * C - 1) / 2):Nat):Int):=by rw [← Int.natCast_mul,wrap_id (by omega)]
    rw [e1,e2,e3,hcr,e4,Ly.esp] at hc
    omega
  refine ⟨C,R,R * C,PG,(turn.tmod 2 == 1),W,H,hd,fo,sp,mg,cr,fw,fh,lw,lh,z',?_,h1,Ly.st,Ly.size,hz1,Ly.z1,Ly.z2⟩
  exact { hF:=hF,hC:=hC,hR:=hR,hC8:=hC8,hR8:=hR8,hN:=rfl,hN2:=⟨hpos1,hRC⟩,len:=hPG,ew:=Ly.ew,eh:=Ly.eh,ehd:=Ly.ehd,efo:=Ly.efo,esp:=Ly.esp,ecr:=hcr,bw:=Ly.bw,bh:=Ly.bh,bd:=⟨Ly.bd.1,Ly.bd.2.1,Ly.bd.2.2.1⟩,bcr:=hcr8,
          creep:=fun k hk=>Nat.le_trans (Nat.mul_le_mul_left cr (by omega)) hcreep,hfw:=hfw,hfh:=hfh,Z:=Z0,lw1:=hlw.1,lh1:=hlw.2,page:=hpage,uniq:=fun j k hj hk=>uniq_of hC8.1 hI hPGe hj hk,pages:=h8,read:=h9 }
variable {F:Nat} {l:S_ImposeLayout} {C R N:Nat} {PG:List S_FoldPage} {odd:Bool} {W H hd fo sp mg cr fw fh lw lh:Nat}
theorem leaf_ok (c:Ctx F l C R N PG odd W H hd fo sp mg cr fw fh lw lh):impose_leaf F l=some ((lw:Int),(lh:Int)):=by
  rw [← c.Z.leaf]
  unfold impose_leaf ref3_leafSize
  rw [c.pages,c.read]
theorem single_ok (c:Ctx F l C R N PG odd W H hd fo sp mg cr fw fh lw lh):impose_single F l=some (((C * lw+2 * mg:Nat):Int),((R * lh+2 * mg:Nat):Int)):=by
  have h:=c.Z.single
  unfold ref3_SingleSize at h
  rw [c.Z.leaf,call_some] at h
  rw [← h]
  unfold impose_single
  rw [leaf_ok c,call_some]
  rw [Int.add_comm (IntKind.i64.wrap (l.f0.f0 * (lw:Int))),Int.add_comm (IntKind.i64.wrap (l.f0.f1 * (lh:Int)))]
/-- Where page k lies. -/
theorem place_ok (c:Ctx F l C R N PG odd W H hd fo sp mg cr fw fh lw lh) {k T col row:Nat} (hk:k < 2 * N) (hp:PgOk C R odd (PG.getD k pg0) T col row) :
    impose_place F l ((k+1:Nat):Int) (PG.getD k pg0)=some ⟨((C * lw+2 * mg:Nat):Int),((R * lh+2 * mg:Nat):Int),((mg+col * lw+(boxP T fw fh (leftP N sp cr fw W k) hd W H).1:Nat):Int),((mg+row * lh+(boxP T fw fh (leftP N sp cr fw W k) hd W H).2:Nat):Int),((dimP T W H).1:Int),((dimP T W H).2:Int)⟩:=by
  have h1:=c.lw1
  have h2:=c.lh1
  have h4:=c.hN2
  have hb:=c.Z.bmg
  have hF:=c.hF
  have hcr:=c.creep k hk
  have bfw:=c.Z.bfw
  have bfh:=c.Z.bfh
  have bw:=c.bw
  have bh:=c.bh
  have bd:=c.bd
  have hin:=c.left hk
  have hfw:=c.hfw
  have hfh:=c.hfh
  have hlw:(lw,lh)=bif T % 2 == 1 then (fh,fw) else (fw,fh):=by rw [hp.par]; exact c.Z.lwh
  have hbox:=box_in hp.bt hlw hin.1 (show hd+H≤fh by omega)
  obtain ⟨FW',FH',hturn⟩:=box_turned_eq F (by omega) hp.bt (FW:=fw) (FH:=fh) (x:=leftP N sp cr fw W k) (y:=hd) (w:=W) (h:=H) hin.1 (by omega) (by omega) (by omega)
  have d2:(2:Int)=((2:Nat):Int):=rfl
  have w0:IntKind.i64.wrap (((k+1:Nat):Int) - 1)=(k:Int):=by rw [wrap_id (by omega)]; omega
  have w1:IntKind.i64.wrap ((k:Int).tdiv 2)=((k / 2:Nat):Int):=by rw [d2,tdiv_nat,wrap_id (by omega)]
  have w2:IntKind.i64.wrap (l.f0.f0 * l.f0.f1)=(N:Int):=by
    rw [c.hC,c.hR,← Int.natCast_mul,Nat.mul_comm C R,← c.hN,wrap_id (by omega)]
  have w3:IntKind.i64.wrap ((N:Int) - 1)=((N - 1:Nat):Int):=wrap_pred (by omega) (by omega)
  have w4:IntKind.i64.wrap (((N - 1:Nat):Int) - ((k / 2:Nat):Int))=((N - 1 - k / 2:Nat):Int):=by rw [wrap_id (by omega)]; omega
  have w5:(if ((N - 1 - k / 2:Nat):Int) < ((k / 2:Nat):Int) then ((N - 1 - k / 2:Nat):Int) else ((k / 2:Nat):Int))=((min (N - 1 - k / 2) (k / 2):Nat):Int):=by
    split <;> omega
  have hdep:impose_depth F ((k / 2:Nat):Int) (N:Int)=some ((min (N - 1 - k / 2) (k / 2):Nat):Int):=by
    unfold impose_depth
    rw [w3,w4,w5,lett_eq]
  have hmn:min (N - 1 - k / 2) (k / 2)≤32:=by omega
  have hpr:cr * min (N - 1 - k / 2) (k / 2)≤8 * 32:=Nat.mul_le_mul c.bcr hmn
  have w6:IntKind.i64.wrap ((sp:Int) - IntKind.i64.wrap ((cr:Int) * ((min (N - 1 - k / 2) (k / 2):Nat):Int)))=((innerP N sp cr k:Nat):Int):=by
    rw [← Int.natCast_mul,wrap_id (x:=((cr * min (N - 1 - k / 2) (k / 2):Nat):Int)) (by omega),wrap_id (by omega)]
    unfold innerP
    omega
  have w7:(bif (((k+1:Nat):Int).tmod 2 == 0) then some (IntKind.i64.wrap (IntKind.i64.wrap ((fw:Int) - ((innerP N sp cr k:Nat):Int)) - (W:Int))) else some ((innerP N sp cr k:Nat):Int))=some ((leftP N sp cr fw W k:Nat):Int):=by
    rw [d2,tmod_nat]
    unfold leftP
    by_cases ho:k % 2=1
    · have h0:(k+1) % 2=0:=by omega
      rw [if_pos ho,h0]
      simp only [Int.cast_ofNat_Int,beq_self_eq_true,cond_true,Option.some.injEq]
      rw [wrap_id (x:=(fw:Int) - ((innerP N sp cr k:Nat):Int)) (by omega),wrap_id (by omega)]
      omega
    · have h0:(k+1) % 2=1:=by omega
      rw [if_neg ho,h0]
      rfl
  have hc1:=hp.bc
  have hr1:=hp.br
  have hC8:=c.hC8
  have hR8:=c.hR8
  have m1:col * lw≤8 * 384:=Nat.mul_le_mul (by omega) h1.2
  have m2:row * lh≤8 * 384:=Nat.mul_le_mul (by omega) h2.2
  unfold impose_place
  rw [leaf_ok c,call_some,w0,w1,w2,hdep,call_some]
  rw [c.Z.efw,c.Z.efh]
  simp only [c.esp,c.ecr,c.ew,c.eh,c.ehd,w6,lett_eq]
  rw [w7,call_some,hp.t,hturn,call_some,single_ok c,call_some]
  simp only
  rw [hp.c,hp.r,c.Z.emg,← Int.natCast_mul,← Int.natCast_mul,wrap_id (x:=((col * lw:Nat):Int)) (by omega),wrap_id (x:=((row * lh:Nat):Int)) (by omega),
    wrap_id (x:=(mg:Int)+((col * lw:Nat):Int)) (by omega),wrap_id (x:=(mg:Int)+((row * lh:Nat):Int)) (by omega),wrap_id (by omega),wrap_id (by omega)]
  rfl
end Go.Vm.BinG
