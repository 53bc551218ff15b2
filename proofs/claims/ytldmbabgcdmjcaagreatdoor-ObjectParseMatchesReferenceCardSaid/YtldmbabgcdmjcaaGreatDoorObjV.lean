/-
  R.Object's walk by hand: its callees at the world's level.
-/
import Derived.Test.YtldmbabgcdmjcaaGreatDoorObjQb
import Derived.Test.YtldmbabgcdmjcaaGreatDoorObjRh
import Derived.Test.YtldmbabgcdmjcaaGreatDoorVmD
import Derived.OwnWalk
import Derived.Laws.ResultCell
namespace Go.Vm.ObjM
open Go.Proofs
open Go.RowKit Go.Vm.ObjR
/-- A contract over data: what is returned,and that nothing that was there turns. -/
theorem bR0 {P:Program} {k:Nat} {args:List AV} {us:List Value} {W:World} {res:AV} (h:aS P k args [] res []) (hlen:us.length=args.length) (hn:args.length < aH) (hd:args.all AV.nT=true)
  (hr:bC (fun _ a u=>aV (rO W) W (fun _=>.bool false) (0,0) a u) 0 args us) :
  Calls P k us.toArray W fun e W'=>∃ v S' β',e=.returned v∧dV (dN []) S' W' β' aH res v∧Below W.heap.size W W':=by
 obtain ⟨hown,hm0⟩:=aI5 (gs:=[]) hlen hn hd hr (by simp)
 refine (h.2 W (rO W) (gbs []) us hlen hm0).mono fun e W' ⟨u,S',β',he,hm⟩=>?_
 obtain ⟨v,hv1,hv2⟩:=hm.rel aH
 have hu:=hv2 u (by simp)
 subst hu
 have hres':aU ((aH,res) :: iA aF []) aH=res:=aO _ _ _
 rw [hres'] at hv1
 have noA:∀ b,¬ dJ (bO args (gvs [])) (gbs []) b:=by
  rintro b ⟨x,j,hx,_⟩
  rw [hown] at hx
  cases hx
 exact ⟨u,S',β',he,hv1,⟨hm.os,hm.tape,hm.output,hm.size,fun i hi=>hm.old i hi (noA i)⟩⟩
/-- A token's value. -/
def aV3 (t:aD):Value:=.agg #[.int .i64 t.f0,.int .i64 t.f1,.string ⟨t.f2.toArray⟩,.int .i64 t.f3,.int .i64 t.f4]
theorem cP2 (W:World) (t:aD) (β:Path→Value):aV (rO W) W β (0,0) (.agg (aX t)) (aV3 t):=by
 refine ⟨_,rfl,rfl,?_⟩
 unfold aX
 simp only [cI,cS,List.cons_append,List.nil_append,RCs,RD]
 exact ⟨⟨_,rfl,rfl,rfl⟩,⟨_,rfl,rfl,rfl⟩,⟨_,rfl,rfl⟩,⟨_,rfl,rfl,rfl⟩,⟨_,rfl,rfl,rfl⟩,trivial⟩
theorem cQ4 {S:Nat→Prop} {W:World} {β:Path→Value} {p:Path} {t:aD} {u:Value} (h:aV S W β p (.agg (aX t)) u):u=aV3 t:=by
 obtain ⟨l,rfl,hl,hr⟩:=h
 match l,hl with
 | [a,b,c,d,e],_ =>
  unfold aX at hr
  simp only [cI,cS,List.cons_append,List.nil_append,RCs,RD] at hr
  obtain ⟨⟨u0,e0,r0,_⟩,⟨u1,e1,r1,_⟩,⟨u2,e2,r2⟩,⟨u3,e3,r3,_⟩,⟨u4,e4,r4,_⟩,_⟩:=hr
  cases e0
  cases e1
  cases e2
  cases e3
  cases e4
  subst r0 r1 r2 r3 r4
  rfl
theorem bT7 (W:World) {F:Nat} {s:List UInt8} {a:Int} {r:aD×Int×Int} (h:lC F s a=some r):Calls Tryz.prog 20 #[.string ⟨s.toArray⟩,.int .i64 a] W fun e W'=>e=.returned (.tuple #[aV3 r.1,.int .i64 r.2.1,.int .i64 r.2.2])∧Below W.heap.size W W':=by
 refine (bR0 (us:=[strOf s,.int .i64 a]) (bG2 h) rfl (show 2 < aH by decide) rfl ⟨by simp [aV,RD],by simp [aV,RD,Value.oneCell'],trivial⟩).mono ?_
 rintro e W' ⟨u,S',β',rfl,hu,hb⟩
 obtain ⟨vs,rfl,_,hp⟩:=hu
 match vs,hp with
 | [a,b,c],hp =>
  obtain ⟨h1,h2,h3,_⟩:=hp
  have e1:=cQ4 h1
  have e2:b=.int .i64 r.2.1:=h2.1
  have e3:c=.int .i64 r.2.2:=h3.1
  subst e1 e2 e3
  exact ⟨rfl,hb⟩
 | [],hp=>exact hp.elim
 | [_],hp=>exact hp.2.elim
 | [_,_],hp=>exact hp.2.2.elim
 | _ :: _ :: _ :: _ :: _,hp=>exact hp.2.2.2.elim
theorem cV4 (W:World) {F:Nat} {l:List bE} {t:aD} {r:Bool×Int} (h:dK F l t=some r) {v:Value} (hv:RD (rO W) W (.sl 7 (l.map fE)) v):Calls Tryz.prog 21 #[v,aV3 t] W fun e W'=>e=.returned (.tuple #[.bool r.1,.int .i64 r.2])∧Below W.heap.size W W':=by
 refine (bR0 (us:=[v,aV3 t]) (aD5 h) rfl (show 2 < aH by decide) rfl ⟨hv,cP2 W t _,trivial⟩).mono ?_
 rintro e W' ⟨u,S',β',rfl,hu,hb⟩
 obtain ⟨vs,rfl,_,hp⟩:=hu
 match vs,hp with
 | [a,b],hp =>
  obtain ⟨h1,h2,_⟩:=hp
  have e1:a=.bool r.1:=h1.1
  have e2:b=.int .i64 r.2:=h2.1
  subst e1 e2
  exact ⟨rfl,hb⟩
 | [],hp=>exact hp.elim
 | [_],hp=>exact hp.2.elim
 | _ :: _ :: _ :: _,hp=>exact hp.2.2.elim
theorem bG7 (W:World) {F:Nat} {o:aG} {r:List UInt8×Int} (h:nA F o=some r) {ov:OV} (hv:RCs (rO W) W (bA o) (fun j=>ov.cells[j]?) 0):Calls Tryz.prog 11 #[ov.val] W fun e W'=>e=.returned (.tuple #[strOf r.1,.int .i64 r.2])∧Below W.heap.size W W':=by
 refine (bR0 (us:=[ov.val]) (aT7 h) rfl (show 1 < aH by decide) rfl ⟨⟨_,rfl,rfl,?_⟩,trivial⟩).mono ?_
 ·exact hv
 rintro e W' ⟨u,S',β',rfl,hu,hb⟩
 obtain ⟨vs,rfl,_,hp⟩:=hu
 match vs,hp with
 | [a,b],hp =>
  obtain ⟨h1,h2,_⟩:=hp
  have e1:a=strOf r.1:=by simpa only [aV,RD] using h1
  have e2:b=.int .i64 r.2:=h2.1
  subst e1 e2
  exact ⟨rfl,hb⟩
 | [],hp=>exact hp.elim
 | [_],hp=>exact hp.2.elim
 | _ :: _ :: _ :: _,hp=>exact hp.2.2.elim
/-- A leaf's value. -/
def bM9 (o:aG):OV:=⟨o.f0,o.f1,⟨o.f2.toArray⟩,none,0,0,none,0,0⟩
set_option maxRecDepth 100000 in
set_option maxHeartbeats 1000000 in
theorem aF4 (W:World) {F:Nat} {t:aD} {r:aG×Int} (h:jM F t=some r):Calls Tryz.prog 22 #[aV3 t] W fun e W'=>e=.returned (.tuple #[(bM9 r.1).val,.int .i64 r.2])∧Below W.heap.size W W'∧r.1.f3=[]∧r.1.f4=[]:=by
 obtain ⟨t0,t1,t2,t3,t4⟩:=t
 unfold jM at h
 unfold aV3
 have hb:Below W.heap.size W W:=Below.refl _ _
 dsimp only at h ⊢
 have bne:∀ l:List UInt8,t2≠l→({ data:=t2.toArray }:ByteArray)≠{ data:=l.toArray }:=fun l hl e=>hl (by injection e with e; simpa using congrArg Array.toList e)
 by_cases h1:t0=1
 ·subst h1
  obtain hs:=Option.some.inj h
  subst hs
  clear h
  go_enter Tryz.func22,Tryz.ntmps22
  go_wp2
  refine bodyPost_ret_by (by rw [results_cell_tmp rfl]; go_simp; rfl) rfl ⟨rfl,?_,by simp,by simp⟩
  exact ((Below.refl _ _).alloc (Nat.le_refl _) _).alloc (by simp) _
 ·replace h:_:=h
  by_cases h2:t0=2
  ·subst h2
   obtain hs:=Option.some.inj h
   subst hs
   clear h
   go_enter Tryz.func22,Tryz.ntmps22
   go_wp2
   refine bodyPost_ret_by (by rw [results_cell_tmp rfl]; go_simp; rfl) rfl ⟨rfl,?_,by simp,by simp⟩
   exact ((Below.refl _ _).alloc (Nat.le_refl _) _).alloc (by simp) _
  ·replace h:_:=h
   by_cases h3:t0=3
   ·subst h3
    obtain hs:=Option.some.inj h
    subst hs
    clear h
    go_enter Tryz.func22,Tryz.ntmps22
    go_wp2
    refine bodyPost_ret_by (by rw [results_cell_tmp rfl]; go_simp; rfl) rfl ⟨rfl,?_,by simp,by simp⟩
    exact ((Below.refl _ _).alloc (Nat.le_refl _) _).alloc (by simp) _
   ·replace h:_:=h
    by_cases h4:t0=4
    ·subst h4
     obtain hs:=Option.some.inj h
     subst hs
     clear h
     go_enter Tryz.func22,Tryz.ntmps22
     go_wp2
     refine bodyPost_ret_by (by rw [results_cell_tmp rfl]; go_simp; rfl) rfl ⟨rfl,?_,by simp,by simp⟩
     exact ((Below.refl _ _).alloc (Nat.le_refl _) _).alloc (by simp) _
    ·replace h:_:=h
     have f1:(t0 == (1:Int))=false:=by simpa using h1
     have f2:(t0 == (2:Int))=false:=by simpa using h2
     have f3:(t0 == (3:Int))=false:=by simpa using h3
     have f4:(t0 == (4:Int))=false:=by simpa using h4
     simp only [f1,f2,f3,f4,cond_false] at h
     by_cases g0:t2=[110,117,108,108]
     ·subst g0
      obtain hs:=Option.some.inj h
      subst hs
      clear h
      go_enter Tryz.func22,Tryz.ntmps22
      go_wp2
      refine bodyPost_ret_by (by rw [results_cell_tmp rfl]; go_simp; rfl) rfl ⟨rfl,?_,by simp,by simp⟩
      exact ((Below.refl _ _).alloc (Nat.le_refl _) _).alloc (by simp) _
     ·have b0:=bne _ g0
      have e0:(t2 == ([110,117,108,108]:List UInt8))=false:=by simpa using g0
      simp only [e0,cond_false] at h
      by_cases g1:t2=[116,114,117,101]
      ·subst g1
       obtain hs:=Option.some.inj h
       subst hs
       clear h
       go_enter Tryz.func22,Tryz.ntmps22
       go_wp2
       refine bodyPost_ret_by (by rw [results_cell_tmp rfl]; go_simp; rfl) rfl ⟨rfl,?_,by simp,by simp⟩
       exact ((Below.refl _ _).alloc (Nat.le_refl _) _).alloc (by simp) _
      ·have b1:=bne _ g1
       have e1:(t2 == ([116,114,117,101]:List UInt8))=false:=by simpa using g1
       simp only [e1,cond_false] at h
       by_cases g2:t2=[102,97,108,115,101]
       ·subst g2
        obtain hs:=Option.some.inj h
        subst hs
        clear h
        go_enter Tryz.func22,Tryz.ntmps22
        go_wp2
        refine bodyPost_ret_by (by rw [results_cell_tmp rfl]; go_simp; rfl) rfl ⟨rfl,?_,by simp,by simp⟩
        exact ((Below.refl _ _).alloc (Nat.le_refl _) _).alloc (by simp) _
       ·have b2:=bne _ g2
        have e2:(t2 == ([102,97,108,115,101]:List UInt8))=false:=by simpa using g2
        simp only [e2,cond_false] at h
        skip
        obtain hs:=Option.some.inj h
        subst hs
        clear h
        go_enter Tryz.func22,Tryz.ntmps22
        go_wp2
        refine bodyPost_ret_by (by rw [results_cell_tmp rfl]; go_simp; rfl) rfl ⟨rfl,?_,by simp,by simp⟩
        exact ((Below.refl _ _).alloc (Nat.le_refl _) _).alloc (by simp) _
end Go.Vm.ObjM
