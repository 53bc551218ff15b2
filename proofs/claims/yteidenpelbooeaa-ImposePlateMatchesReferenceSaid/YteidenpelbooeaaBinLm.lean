/-
  BINDERY,PLAIN,part 5: layouts without an error; plates of dots; tiny layouts.
-/
import Derived.Test.YteidenpelbooeaaBinLk
namespace Go.Vm.BinG
theorem law3_imposeFact_eq (n:Nat):law3_imposeFact (n+1000)=some true:=by rfl
theorem tiny_c1_ex (F:Nat) (a m:Int) (hm:0≤m∧m≤100):∃ r,law3_tiny_c1 F a m=some r:=by
  unfold law3_tiny_c1
  rw [or_cond]
  cases h:(decide (a < 0) || decide (a > 64))
  · rw [cond_false,chk_pos (by rw [wrap_id (by omega)]; omega)]
    exact ⟨_,rfl⟩
  · exact ⟨_,rfl⟩
theorem tiny_ex (F:Nat) (l:S_ImposeLayout):∃ t,law3_tiny F l=some t:=by
  obtain ⟨_,h1⟩:=tiny_c1_ex F l.f1 6 (by omega)
  obtain ⟨_,h2⟩:=tiny_c1_ex F l.f2 6 (by omega)
  obtain ⟨_,h3⟩:=tiny_c1_ex F l.f3 2 (by omega)
  obtain ⟨_,h4⟩:=tiny_c1_ex F l.f4 2 (by omega)
  obtain ⟨_,h5⟩:=tiny_c1_ex F l.f6 3 (by omega)
  obtain ⟨_,h6⟩:=tiny_c1_ex F l.f5 12 (by omega)
  unfold law3_tiny
  rw [h1,call_some,h2,call_some,h3,call_some,h4,call_some,h5,call_some,h6,call_some]
  exact ⟨_,rfl⟩
/-- A plate of dots. -/
theorem dots_L0_eq (F:Nat) (w h c:Int) {N:Nat} (hN:IntKind.i64.wrap (w * h)=N) (hN2:N≤1048576) :
    ∀ (m i n:Nat) (acc:List UInt8),i+m=N→m < n→acc.length=i→∃ r,law3_dots_L0 F w h c n acc i=some r∧r.length=N:=by
  intro m
  induction m with
  | zero =>
    intro i n acc h1 hn hl
    obtain ⟨n,rfl⟩:∃ k,n=k+1:=⟨n - 1,by omega⟩
    obtain rfl:i=N:=by omega
    refine ⟨acc,?_,hl⟩
    rw [law3_dots_L0,hN,dec_end,cond_false]
  | succ m ih =>
    intro i n acc h1 hn hl
    obtain ⟨n,rfl⟩:∃ k,n=k+1:=⟨n - 1,by omega⟩
    have hu:∀ x:Int,0≤IntKind.u8.wrap x∧IntKind.u8.wrap x < 256:=by
      intro x
      unfold IntKind.wrap
      simp [IntKind.bits,IntKind.signed]
      omega
    rw [law3_dots_L0,hN,dec_lt (show i < N by omega),cond_true,lett_eq,chk_pos (hu _),chk_pos (by simp; omega),wrap_succ (by omega)]
    exact ih (i+1) n _ (by omega) (by omega) (by simp; omega)
theorem dots_ok {F:Nat} (hF:1048577 < F) {w h:Nat} (hw:1≤w∧w≤1024) (hh:1≤h∧h≤1024) (c:Int):∃ p,law3_dots F w h c=some p∧VP p w h:=by
  have hm:=mul_1024 hw.2 hh.2
  have hN:IntKind.i64.wrap ((w:Int) * h)=((w * h:Nat):Int):=by rw [← Int.natCast_mul]; exact wrap_id (by omega)
  obtain ⟨r,h1,h2⟩:=dots_L0_eq F w h c hN hm (w * h) 0 F [] (by omega) (by omega) rfl
  refine ⟨⟨w,h,r⟩,?_,⟨rfl,rfl,hw,hh,h2⟩⟩
  unfold law3_dots
  rw [Int.natCast_zero] at h1
  rw [h1,call_some]
/-- What a layout without an error is like. -/
structure Lay (F:Nat) (l:S_ImposeLayout) (C R:Nat) (PG:List S_FoldPage) (W H hd fo sp mg:Nat) (z:Int×Int):Prop where
  ew:l.f1=W
  eh:l.f2=H
  ehd:l.f3=hd
  efo:l.f4=fo
  esp:l.f5=sp
  emg:l.f6=mg
  bw:1≤W∧W≤256
  bh:1≤H∧H≤256
  bd:hd≤64∧fo≤64∧sp≤64∧mg≤64
  cr:0≤l.f7∧l.f7≤8
  st:0≤l.f8∧l.f8≤2
  creep:¬ IntKind.i64.wrap (l.f7 * IntKind.i64.wrap ((IntKind.i64.wrap ((IntKind.i64.wrap ((PG.length:Int).tdiv 2)) - 1)).tdiv 2)) > l.f5
  size:ref3_PlateSize F l=some z
  z1:z.1≤1024
  z2:z.2≤1024
theorem lay_of {F:Nat} {l:S_ImposeLayout} {C R:Nat} {PG:List S_FoldPage} (h9:ref3_Read F l.f0=some (PG,0)) (he:ref3_LayoutError F l=some 0):∃ W H hd fo sp mg z,Lay F l C R PG W H hd fo sp mg z:=by
  unfold ref3_LayoutError at he
  rw [h9,call_some,bne_self_eq_false,cond_false] at he
  simp only [lett_eq,or_cond] at he
  cases c1:(((decide (l.f1 < 1) || decide (l.f1 > 256)) || decide (l.f2 < 1)) || decide (l.f2 > 256)) with
  | true=>rw [c1,cond_true] at he; cases he
  | false =>
  rw [c1,cond_false] at he
  cases c2:(((((((decide (l.f3 < 0) || decide (l.f4 < 0)) || decide (l.f5 < 0)) || decide (l.f6 < 0)) || decide (l.f3 > 64)) || decide (l.f4 > 64)) || decide (l.f5 > 64)) || decide (l.f6 > 64)) with
  | true=>rw [c2,cond_true] at he; cases he
  | false =>
  rw [c2,cond_false] at he
  cases c3:(decide (l.f7 < 0) || decide (l.f7 > 8)) with
  | true=>rw [c3,cond_true] at he; cases he
  | false =>
  rw [c3,cond_false] at he
  cases c4:(decide (l.f8 < 0) || decide (l.f8 > 2)) with
  | true=>rw [c4,cond_true] at he; cases he
  | false =>
  rw [c4,cond_false] at he
  cases c5:decide (IntKind.i64.wrap (l.f7 * IntKind.i64.wrap ((IntKind.i64.wrap ((IntKind.i64.wrap ((PG.length:Int).tdiv 2)) - 1)).tdiv 2)) > l.f5) with
  | true=>rw [c5,cond_true] at he; cases he
  | false =>
  rw [c5,cond_false] at he
  cases hz:ref3_PlateSize F l with
  | none=>rw [hz] at he; cases he
  | some z =>
  rw [hz,call_some] at he
  cases c6:(decide (z.1 > 1024) || decide (z.2 > 1024)) with
  | true=>rw [c6,cond_true] at he; cases he
  | false =>
  simp only [Bool.or_eq_false_iff,decide_eq_false_iff_not] at c1 c2 c3 c4 c5 c6
  exact ⟨l.f1.toNat,l.f2.toNat,l.f3.toNat,l.f4.toNat,l.f5.toNat,l.f6.toNat,z,by omega,by omega,by omega,by omega,by omega,by omega,by omega,by omega,by omega,by omega,by omega,c5,hz,by omega,by omega⟩
/-- The sizes,as numbers. -/
structure Siz (F:Nat) (l:S_ImposeLayout) (C R:Nat) (odd:Bool) (fw fh lw lh mg:Nat):Prop where
  efw:IntKind.i64.wrap (IntKind.i64.wrap (l.f1+l.f4)+l.f5)=fw
  efh:IntKind.i64.wrap (l.f2+IntKind.i64.wrap (2 * l.f3))=fh
  bfw:1≤fw∧fw≤384
  bfh:1≤fh∧fh≤384
  lwh:(lw,lh)=bif odd then (fh,fw) else (fw,fh)
  emg:l.f6=mg
  bmg:mg≤64
  leaf:ref3_leafSize F l=some ((lw:Int),(lh:Int))
  single:ref3_SingleSize F l=some (((C * lw+2 * mg:Nat):Int),((R * lh+2 * mg:Nat):Int))
  frame:bindery_frameOf F l=some ⟨fw,fh,((C * lw+2 * mg:Nat):Int),((R * lh+2 * mg:Nat):Int)⟩
  bw:C * lw+2 * mg≤1024
  bh:R * lh+2 * mg≤1024
theorem siz_of {F:Nat} {l:S_ImposeLayout} {C R:Nat} {PG:List S_FoldPage} {W H hd fo sp mg:Nat} {z:Int×Int} (L:Lay F l C R PG W H hd fo sp mg z) (hC:l.f0.f0=C) (hR:l.f0.f1=R) (hC8:1≤C∧C≤8) (hR8:1≤R∧R≤8) (hpos:0 < PG.length) (h8:fold_Pages F l.f0=some (PG,0)) (h9:ref3_Read F l.f0=some (PG,0)) :
    ∃ fw fh lw lh,fw=W+fo+sp∧fh=H+2 * hd∧Siz F l C R ((PG.getD 0 pg0).f3.tmod 2 == 1) fw fh lw lh mg:=by
  have b1:=L.bw
  have b2:=L.bh
  have b3:=L.bd
  have efw:IntKind.i64.wrap (IntKind.i64.wrap (l.f1+l.f4)+l.f5)=((W+fo+sp:Nat):Int):=by
    rw [L.ew,L.efo,L.esp,wrap_id (x:=(W:Int)+fo) (by omega),wrap_id (by omega)]
    omega
  have efh:IntKind.i64.wrap (l.f2+IntKind.i64.wrap (2 * l.f3))=((H+2 * hd:Nat):Int):=by
    rw [L.eh,L.ehd,wrap_id (x:=2 * (hd:Int)) (by omega),wrap_id (by omega)]
    omega
  obtain ⟨lw,lh,g1,g2,g3,g4⟩:=frame_eq l hpos h8 h9
  rw [efw,efh] at g2 g4
  obtain ⟨lw',lh',hl1,hl2,hlwh,hb1,hb2⟩:∃ lw' lh':Nat,lw=lw'∧lh=lh'∧(lw',lh')=(bif ((PG.getD 0 pg0).f3.tmod 2 == 1) then (H+2 * hd,W+fo+sp) else (W+fo+sp,H+2 * hd))∧lw'≤384∧lh'≤384:=by
    by_cases ht:(PG.getD 0 pg0).f3.tmod 2=1
    · rw [if_pos ht] at g2
      simp only [Prod.mk.injEq] at g2
      exact ⟨H+2 * hd,W+fo+sp,g2.1,g2.2,by rw [ht]; rfl,by omega,by omega⟩
    · rw [if_neg ht] at g2
      simp only [Prod.mk.injEq] at g2
      exact ⟨W+fo+sp,H+2 * hd,g2.1,g2.2,by rw [beq_false_of_ne ht]; rfl,by omega,by omega⟩
  subst hl1 hl2
  have m1:C * lw'≤8 * 384:=Nat.mul_le_mul hC8.2 hb1
  have m2:R * lh'≤8 * 384:=Nat.mul_le_mul hR8.2 hb2
  have e1:IntKind.i64.wrap (IntKind.i64.wrap (l.f0.f0 * lw')+IntKind.i64.wrap (2 * l.f6))=((C * lw'+2 * mg:Nat):Int):=by
    rw [hC,L.emg,← Int.natCast_mul,wrap_id (x:=((C * lw':Nat):Int)) (by omega),wrap_id (x:=2 * (mg:Int)) (by omega),wrap_id (by omega)]
    omega
  have e2:IntKind.i64.wrap (IntKind.i64.wrap (l.f0.f1 * lh')+IntKind.i64.wrap (2 * l.f6))=((R * lh'+2 * mg:Nat):Int):=by
    rw [hR,L.emg,← Int.natCast_mul,wrap_id (x:=((R * lh':Nat):Int)) (by omega),wrap_id (x:=2 * (mg:Int)) (by omega),wrap_id (by omega)]
    omega
  rw [e1,e2] at g3 g4
  have hz:C * lw'+2 * mg≤1024∧R * lh'+2 * mg≤1024:=by
    have hs:=L.size
    have z1:=L.z1
    have z2:=L.z2
    unfold ref3_PlateSize at hs
    rw [g3,call_some] at hs
    cases q1:(l.f8 == (1:Int))
    · rw [q1,cond_false] at hs
      cases q2:(l.f8 == (2:Int))
      · rw [q2,cond_false] at hs
        simp only [Option.some.injEq] at hs
        subst hs
        simp only at z1 z2
        omega
      · rw [q2,cond_true] at hs
        simp only [Option.some.injEq] at hs
        subst hs
        simp only at z1 z2
        rw [wrap_id (by omega)] at z2
        omega
    · rw [q1,cond_true] at hs
      simp only [Option.some.injEq] at hs
      subst hs
      simp only at z1 z2
      rw [wrap_id (by omega)] at z1
      omega
  exact ⟨W+fo+sp,H+2 * hd,lw',lh',rfl,rfl,efw,efh,by omega,by omega,hlwh,L.emg,by omega,g1,g3,g4,hz.1,hz.2⟩
end Go.Vm.BinG
