/-
  IMPOSE,PLAIN,part 7: the law of plates.
-/
import Derived.Test.YteidenpelbooeaaBinLu
namespace Go.Vm.BinG
theorem u64_id {x:Int} (h:0≤x∧x < 18446744073709551616):IntKind.u64.wrap x=x:=by
  unfold IntKind.wrap
  simp [IntKind.bits,IntKind.signed]
  omega
theorem u64_pos (x:Int):0≤IntKind.u64.wrap x:=by
  unfold IntKind.wrap
  simp [IntKind.bits,IntKind.signed]
  omega
/-- The pages that are made. -/
theorem many_ok {F:Nat} (hF:1048577 < F) {l:S_ImposeLayout} {W H:Nat} (ew:l.f1=W) (eh:l.f2=H) (bw:1≤W∧W≤256) (bh:1≤H∧H≤256) {m:Nat} (hm:m≤1000) :
    ∀ (j i n:Nat) (acc:List S_Plate),i+j=m→j < n→acc.length=i→(∀ k,k < acc.length→VP (acc.getD k pl0) W H) →
      ∃ ps,law3_ImposePlateMatchesReference_L0 F l (m:Int) n acc i=some ps∧ps.length=m∧∀ k,k < ps.length→VP (ps.getD k pl0) W H:=by
  have w0:IntKind.i64.wrap (m:Int)=m:=wrap_id (by omega)
  intro j
  induction j with
  | zero =>
    intro i n acc h hn hl hv
    obtain ⟨n,rfl⟩:∃ k,n=k+1:=⟨n - 1,by omega⟩
    obtain rfl:i=m:=by omega
    refine ⟨acc,?_,hl,hv⟩
    rw [law3_ImposePlateMatchesReference_L0,w0,dec_end,cond_false]
  | succ j ih =>
    intro i n acc h hn hl hv
    obtain ⟨n,rfl⟩:∃ k,n=k+1:=⟨n - 1,by omega⟩
    rw [law3_ImposePlateMatchesReference_L0,w0,dec_lt (show i < m by omega),cond_true,ew,eh]
    obtain ⟨p,hp,vp⟩:=dots_ok hF (w:=W) (h:=H) (by omega) (by omega) (IntKind.i64.wrap ((IntKind.i64.wrap ((31:Int) * (i:Int)))+(1:Int)))
    rw [hp,call_some,chk_pos (by simp; omega),wrap_succ (by omega)]
    refine ih (i+1) n _ (by omega) (by omega) (by simp; omega) (fun k hk=>?_)
    by_cases hk2:k < acc.length
    · have:=hv k hk2
      rw [List.getD_eq_getElem?_getD,List.getElem?_append_left hk2,← List.getD_eq_getElem?_getD]
      exact this
    · have:k=acc.length:=by simp at hk; omega
      subst this
      simp
      exact vp
/-- What the reference says of a place. -/
def seen (F:Nat) (ps:List S_Plate) (z:Int) (q:Int×Int×Int):Option Int :=
  bif (bif (decide (q.1 > (0:Int))) then (decide (q.1≤z)) else false) then chk (0≤(IntKind.i64.wrap (q.1 - (1:Int)))∧(IntKind.i64.wrap (q.1 - (1:Int))) < ps.length) <| call (ref3_Pix F (ps.getD (IntKind.i64.wrap (q.1 - (1:Int))).toNat (S_Plate.mk 0 0 [])) q.2.1 q.2.2) fun y7=>some y7 else some (0:Int)
theorem IL4_ok {F:Nat} {a:Bool} {l:S_ImposeLayout} {PG:List S_FoldPage} {z:Int} {ps:List S_Plate} {r:S_Plate} {w h y:Nat} (hw:w≤1024)
    (hc:∀ x,x < w→∃ (q:Int×Int×Int) (c:Int),ref3_PixelAt F l PG a (x:Int) (y:Int)=some q∧seen F ps (IntKind.i64.wrap z) q=some c∧ref3_Pix F r x y=some c) :
    ∀ (m x n:Nat),x+m=w→m < n→law3_ImposePlateMatchesReference_L4 F a l (PG,0) z ps (r,0) ((w:Int),(h:Int)) y n x=some (.go ()):=by
  intro m
  induction m with
  | zero =>
    intro x n h1 hn
    obtain ⟨n,rfl⟩:∃ j,n=j+1:=⟨n - 1,by omega⟩
    obtain rfl:x=w:=by omega
    rw [law3_ImposePlateMatchesReference_L4]
    simp only
    rw [dec_end,cond_false]
  | succ m ih =>
    intro x n h1 hn
    obtain ⟨n,rfl⟩:∃ j,n=j+1:=⟨n - 1,by omega⟩
    obtain ⟨q,c,g1,g2,g3⟩:=hc x (by omega)
    rw [law3_ImposePlateMatchesReference_L4]
    simp only
    rw [dec_lt (show x < w by omega),cond_true,g1,call_some]
    change call (seen F ps (IntKind.i64.wrap z) q) _=_
    rw [g2,call_some,g3,call_some,bne_self_eq_false,cond_false,wrap_succ (by omega)]
    exact ih (x+1) n (by omega) (by omega)
theorem IL2_ok {F:Nat} (hF:1024 < F) {a:Bool} {l:S_ImposeLayout} {PG:List S_FoldPage} {z:Int} {ps:List S_Plate} {r:S_Plate} {w h:Nat} (hw:w≤1024) (hh:h≤1024)
    (hc:∀ x y,x < w→y < h→∃ (q:Int×Int×Int) (c:Int),ref3_PixelAt F l PG a (x:Int) (y:Int)=some q∧seen F ps (IntKind.i64.wrap z) q=some c∧ref3_Pix F r x y=some c) :
    ∀ (m y n:Nat),y+m=h→m < n→law3_ImposePlateMatchesReference_L2 F a l (PG,0) z ps (r,0) ((w:Int),(h:Int)) n y=some (.go ()):=by
  intro m
  induction m with
  | zero =>
    intro y n h1 hn
    obtain ⟨n,rfl⟩:∃ j,n=j+1:=⟨n - 1,by omega⟩
    obtain rfl:y=h:=by omega
    rw [law3_ImposePlateMatchesReference_L2]
    simp only
    rw [dec_end,cond_false]
  | succ m ih =>
    intro y n h1 hn
    obtain ⟨n,rfl⟩:∃ j,n=j+1:=⟨n - 1,by omega⟩
    rw [law3_ImposePlateMatchesReference_L2]
    simp only
    have h4:=IL4_ok (h:=h) hw (fun x hx=>hc x y hx (by omega)) w 0 F (by omega) (by omega)
    rw [Int.natCast_zero] at h4
    rw [dec_lt (show y < h by omega),cond_true,h4,callE_go,wrap_succ (by omega)]
    exact ih (y+1) n (by omega) (by omega)
theorem plate_law (n:Nat) (l0:S_ImposeLayout) (many:Int) (a:Bool):law3_ImposePlateMatchesReference (n+2000000) l0 many a=some true:=by
  obtain ⟨F,hFe⟩:∃ F,F=n+2000000:=⟨_,rfl⟩
  have hF:2000000≤F:=by omega
  obtain ⟨l,ht⟩:=tiny_ex F l0
  have hfact:law3_imposeFact F=some true:=by
    rw [hFe,show n+2000000=(n+1999000)+1000 from rfl]
    exact law3_imposeFact_eq _
  rw [← hFe]
  unfold law3_ImposePlateMatchesReference
  rw [hfact,call_some,Bool.not_true,cond_false,ht,call_some]
  obtain ⟨e,h1,h2,h3⟩:=check_main (F:=F) (by omega) l
  rw [h2,call_some]
  by_cases he:e=0
  case neg=>rw [bne_of_ne he,cond_true]
  subst he
  rw [bne_self_eq_false,cond_false]
  obtain ⟨C,R,N,PG,odd,W,H,hd,fo,sp,mg,cr,fw,fh,lw,lh,z,cx,hck,hst,hps,hsz,hz1,hz2⟩:=ctx_of hF h2
  obtain ⟨st,hste⟩:∃ st:Nat,l.f8=st:=⟨l.f8.toNat,by omega⟩
  obtain ⟨g,hg⟩:∃ g:Geo,g=⟨C,R,N,W,H,hd,sp,mg,cr,fw,fh,lw,lh,st,PG⟩:=⟨_,rfl⟩
  have c:GCtx F l g odd fo:=by rw [hg]; exact cx
  have g8:l.f8=g.st:=by rw [hg]; exact hste
  have gst:g.st≤2:=by omega
  have gPG:PG=g.PG:=by rw [hg]
  rw [gPG] at cx
  clear cx hg
  have hN:=c.hN2
  have hlen:=c.len
  have hread:=c.read
  have hsingle:ref3_SingleSize F l=some ((g.sw:Int),(g.sh:Int)):=c.Z.single
  have bsw:g.sw≤1024:=c.Z.bw
  have bsh:g.sh≤1024:=c.Z.bh
  have hsw1:1≤g.sw:=by
    have:=Nat.mul_le_mul c.hC8.1 c.lw1.1
    unfold Geo.sw
    omega
  have hsh1:1≤g.sh:=by
    have:=Nat.mul_le_mul c.hR8.1 c.lh1.1
    unfold Geo.sh
    omega
  have hzz:z=((g.PW:Int),(g.PH:Int)):=by
    refine Option.some.inj (hps.symm.trans ?_)
    unfold ref3_PlateSize
    rw [hsingle,call_some,g8]
    simp only
    have hst3:g.st=0∨g.st=1∨g.st=2:=by omega
    have w1:IntKind.i64.wrap (2 * (g.sw:Int))=((2 * g.sw:Nat):Int):=by rw [wrap_id (by omega)]; omega
    have w2:IntKind.i64.wrap (2 * (g.sh:Int))=((2 * g.sh:Nat):Int):=by rw [wrap_id (by omega)]; omega
    rw [w1,w2]
    unfold Geo.PW Geo.PH
    rcases hst3 with h | h | h <;> rw [h] <;> rfl
  subst hzz
  have hPW:1≤g.PW∧g.PW≤1024:=by
    refine ⟨?_,by have:(g.PW:Int)≤1024:=hz1; omega⟩
    unfold Geo.PW
    split <;> omega
  have hPH:1≤g.PH∧g.PH≤1024:=by
    refine ⟨?_,by have:(g.PH:Int)≤1024:=hz2; omega⟩
    unfold Geo.PH
    split <;> omega
  rw [hread,call_some]
  simp only
  have wN:IntKind.u64.wrap (IntKind.i64.wrap (((g.PG.length:Nat):Int)+1))=((2 * g.N+1:Nat):Int):=by
    rw [hlen,wrap_id (by omega),u64_id (by omega)]
    omega
  rw [wN,chk_pos (by omega),lett_eq]
  obtain ⟨u,hu⟩:∃ u:Nat,IntKind.u64.wrap many=u:=⟨(IntKind.u64.wrap many).toNat,by have:=u64_pos many; omega⟩
  rw [hu,tmod_nat]
  obtain ⟨m,hm⟩:∃ m,m=u % (2 * g.N+1):=⟨_,rfl⟩
  have hm2:m≤2 * g.N:=by
    have:=Nat.mod_lt u (show 0 < 2 * g.N+1 by omega)
    omega
  rw [← hm]
  obtain ⟨ps,hL0,hpl,hvp⟩:=many_ok (F:=F) (by omega) c.ew c.eh c.bw c.bh (m:=m) (by omega) m 0 F [] (by omega) (by omega) rfl (fun k hk=>by simp at hk)
  rw [Int.natCast_zero] at hL0
  rw [hL0,call_some]
  obtain ⟨r,hr,vr,hrx⟩:=Plate_eq c gst g8 hck hsz hPW hPH hvp (by omega) a
  rw [hr,call_some,hps,call_some]
  have hmm:=mul_1024 hPW.2 hPH.2
  have w3:IntKind.i64.wrap ((g.PW:Int) * (g.PH:Int))=((g.PW * g.PH:Nat):Int):=by rw [← Int.natCast_mul,wrap_id (by omega)]
  simp only [lett_eq]
  rw [vr.w,vr.h,vr.len,w3,bne_self_eq_false,bne_self_eq_false,bne_self_eq_false,bne_self_eq_false,cond_false,cond_false,cond_false,cond_false]
  have hL2:=IL2_ok (F:=F) (a:=a) (l:=l) (PG:=g.PG) (z:=(m:Int)) (ps:=ps) (r:=r) (by omega) hPW.2 hPH.2 (fun x y hx hy=>by
    obtain ⟨q,q1,q2⟩:=pixel_ok c gst g8 hPW hPH hvp (by omega) a hx hy
    refine ⟨q,_,q1,?_,pix_eq F vr hx hy⟩
    rw [hrx x y hx hy,← q2]
    unfold seen
    rw [wrap_id (x:=(m:Int)) (by omega),hpl]) g.PH 0 F (by omega) (by omega)
  rw [Int.natCast_zero] at hL2
  rw [hL2,callE_go]
end Go.Vm.BinG
