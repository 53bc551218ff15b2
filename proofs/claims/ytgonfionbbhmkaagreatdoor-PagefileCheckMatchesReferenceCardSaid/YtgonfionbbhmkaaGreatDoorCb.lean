/-
  What is proved by hand of row 44: SortFunc at one row,the deferred closures (PgfGH0),pagefile.copied.
-/
import Derived.Shelf.SlSortCmp.WholeK
import Derived.Shelf.SlSortCmp.NoneTotal
import Derived.Recover
import Derived.WalkKit
import Derived.Test.YtgonfionbbhmkaaGreatDoorVmD
import Derived.Test.YtgonfionbbhmkaaGreatDoorProg
import Derived.Test.YtgonfionbbhmkaaGreatDoorF
import Derived.Sort.AssemblyPlain
import Derived.Test.YtgonfionbbhmkaaGreatDoorCa
import Derived.Test.YtgonfionbbhmkaaGreatDoorPh
namespace Go.Proofs
open Go.Shelf
def Tryz.cI9:Go.Shelf.Ren:=⟨fun | 6=>75 | 15=>57 | 14=>119 | 28=>99 | 29=>100 | 20=>157 | 21=>158 | 22=>159 | 23=>160 | 24=>161 | 25=>162 | 26=>163 | 27=>164 | 46=>191 | 47=>132 | 48=>133 | 49=>192 | 50=>193 | 57=>211 | n=>n,fun | 22=>124 | 24=>126 | 25=>129 | 3=>3 | 39=>110 | 0=>0 | 53=>83 | 55=>149 | 4=>4 | 46=>141 | 45=>140 | 50=>54 | 5=>5 | 9=>9 | 66=>178 | 70=>77 | 76=>221 | 77=>222 | n=>n,fun | n=>n⟩
theorem Tryz.cV5:Go.Proofs.SlLaysF0.n6 Tryz.prog Tryz.cI9:={
 mixed:=by kernel_rfl
 f6:=⟨Tryz.f75.name,by decide,Tryz.func75.trans (congrArg some (by kernel_rfl))⟩
 f14:=⟨Tryz.f119.name,by decide,Tryz.func119.trans (congrArg some (by kernel_rfl))⟩
 f15:=Tryz.func57.trans (congrArg some (by kernel_rfl))
 f20:=⟨Tryz.f157.name,by decide,Tryz.func157.trans (congrArg some (by kernel_rfl))⟩
 f21:=⟨Tryz.f158.name,by decide,Tryz.func158.trans (congrArg some (by kernel_rfl))⟩
 f22:=⟨Tryz.f159.name,by decide,Tryz.func159.trans (congrArg some (by kernel_rfl))⟩
 f23:=⟨Tryz.f160.name,by decide,Tryz.func160.trans (congrArg some (by kernel_rfl))⟩
 f24:=⟨Tryz.f161.name,by decide,Tryz.func161.trans (congrArg some (by kernel_rfl))⟩
 f25:=⟨Tryz.f162.name,by decide,Tryz.func162.trans (congrArg some (by kernel_rfl))⟩
 f26:=⟨Tryz.f163.name,by decide,Tryz.func163.trans (congrArg some (by kernel_rfl))⟩
 f27:=⟨Tryz.f164.name,by decide,Tryz.func164.trans (congrArg some (by kernel_rfl))⟩
 f28:=Tryz.func99.trans (congrArg some (by kernel_rfl))
 f29:=Tryz.func100.trans (congrArg some (by kernel_rfl))
 f46:=⟨Tryz.f191.name,by decide,Tryz.func191.trans (congrArg some (by kernel_rfl))⟩
 f47:=Tryz.func132.trans (congrArg some (by kernel_rfl))
 f48:=Tryz.func133.trans (congrArg some (by kernel_rfl))
 f49:=⟨Tryz.f192.name,by decide,Tryz.func192.trans (congrArg some (by kernel_rfl))⟩
 f50:=⟨Tryz.f193.name,by decide,Tryz.func193.trans (congrArg some (by kernel_rfl))⟩
 f57:=⟨Tryz.f211.name,by decide,Tryz.func211.trans (congrArg some (by kernel_rfl))⟩
 t0:=Tryz.underlying0
 a0:=Tryz.isAgg0
 z0:=Tryz.sizeOf0
 v0:=Tryz.zeroValue0
 t3:=Tryz.underlying3
 a3:=Tryz.isAgg3
 z3:=Tryz.sizeOf3
 v3:=Tryz.zeroValue3
 t4:=Tryz.underlying4
 a4:=Tryz.isAgg4
 z4:=Tryz.sizeOf4
 v4:=Tryz.zeroValue4
 t5:=Tryz.underlying5
 a5:=Tryz.isAgg5
 z5:=Tryz.sizeOf5
 v5:=Tryz.zeroValue5
 t9:=Tryz.underlying9
 a9:=Tryz.isAgg9
 z9:=Tryz.sizeOf9
 v9:=Tryz.zeroValue9
 t22:=Tryz.underlying124
 a22:=Tryz.isAgg124
 z22:=Tryz.sizeOf124
 v22:=Tryz.zeroValue124
 t25:=Tryz.underlying129
 a25:=Tryz.isAgg129
 z25:=Tryz.sizeOf129
 v25:=Tryz.zeroValue129
 t39:=Tryz.underlying110
 a39:=Tryz.isAgg110
 z39:=Tryz.sizeOf110
 v39:=Tryz.zeroValue110
 t45:=Tryz.underlying140
 a45:=Tryz.isAgg140
 z45:=Tryz.sizeOf140
 v45:=Tryz.zeroValue140
 t46:=Tryz.underlying141
 a46:=Tryz.isAgg141
 z46:=Tryz.sizeOf141
 v46:=Tryz.zeroValue141
 t50:=Tryz.underlying54
 a50:=Tryz.isAgg54
 z50:=Tryz.sizeOf54
 v50:=Tryz.zeroValue54
 t53:=Tryz.underlying83
 a53:=Tryz.isAgg83
 z53:=Tryz.sizeOf83
 v53:=Tryz.zeroValue83
 t55:=Tryz.underlying149
 a55:=Tryz.isAgg149
 z55:=Tryz.sizeOf149
 v55:=Tryz.zeroValue149
 t66:=Tryz.underlying178
 a66:=Tryz.isAgg178
 z66:=Tryz.sizeOf178
 v66:=Tryz.zeroValue178
 t70:=Tryz.underlying77
 a70:=Tryz.isAgg77
 z70:=Tryz.sizeOf77
 v70:=Tryz.zeroValue77
 t76:=Tryz.underlying221
 a76:=Tryz.isAgg221
 z76:=Tryz.sizeOf221
 v76:=Tryz.zeroValue221
 t77:=Tryz.underlying222
 a77:=Tryz.isAgg222
 z77:=Tryz.sizeOf222
 v77:=Tryz.zeroValue222 }
end Go.Proofs
namespace Go.Vm.PgfG
open Go.Proofs Go.RowKit Go.Sort
/-- A row,and no other one. -/
abbrev Row1 (r:aT):={ x:aT // x=r }
def encR {r:aT} (x:Row1 r):List Value:=[.int .i64 x.1.f0,.int .i64 x.1.f1]
def cfR {r:aT} (x y:Row1 r):Int:=IntKind.i64.wrap (x.1.f0 - y.1.f0)
set_option maxHeartbeats 1000000 in
set_option maxRecDepth 100000 in
theorem cT8 {r:aT} (x y:Row1 r) (W:World):Calls Tryz.prog 76 #[.agg #[.int .i64 x.1.f0,.int .i64 x.1.f1],.agg #[.int .i64 y.1.f0,.int .i64 y.1.f1]] W fun e w'=>e=.returned (.int .i64 (cfR x y))∧∃ q os',w'=grow (W.drewN q) os':=by
 go_enter Tryz.func76,Tryz.ntmps76
 go_wp2
 go_ret
 exact ⟨by simp [cfR,IntKind.wrap_i64,wrap64],0,_,by rw [alloc_eq_grow,alloc_eq_grow,grow_grow]; rfl⟩
theorem aY6 {r:aT} (x y:Row1 r):cfR x y=0:=by
 have:x=y:=Subtype.ext (x.2.trans y.2.symm)
 subst this
 unfold cfR
 rw [Int.sub_self]
 rfl
theorem dB6 {r:aT}:SWO (ltOf (cfR (r:=r))) where
 irrefl x:=by unfold ltOf; rw [aY6]; rfl
 trans x y z h1 h2:=by unfold ltOf at h1; rw [aY6] at h1; cases h1
 ntrans x y z h1 h2:=by unfold ltOf; rw [aY6]; rfl
instance instRow {r:aT}:Inhabited (Row1 r):=⟨⟨r,rfl⟩⟩
theorem cX0 {r:aT} (a:List (Row1 r)):∀ b:List (Row1 r),a.length=b.length→a=b:=by
 induction a with
 | nil =>
  intro b h
  cases b with
  | nil=>rfl
  | cons y b=>simp at h
 | cons x a ih =>
  intro b h
  cases b with
  | nil=>simp at h
  | cons y b =>
   have:x=y:=Subtype.ext (x.2.trans y.2.symm)
   rw [this,ih b (by simpa using h)]
theorem cK4 {r:aT} (l:List (Row1 r)):(Sort.pdq (ltOf (cfR (r:=r))) l.toArray 0 l.toArray.size (Lib.bitLen l.toArray.size) true true)=l.toArray:=by
 have h:=(pdq_sorts (ltOf (cfR (r:=r))) dB6 l.toArray 0 l.toArray.size (Lib.bitLen l.toArray.size) true true (Nat.zero_le _) (Nat.le_refl _) (Or.inl rfl)).1.1
 have e:=cX0 (Sort.pdq (ltOf (cfR (r:=r))) l.toArray 0 l.toArray.size (Lib.bitLen l.toArray.size) true true).toList l (by simpa using h)
 exact Array.ext' e
set_option maxHeartbeats 1000000 in
set_option maxRecDepth 100000 in
/-- slices.SortFunc of at most one row. -/
theorem bW9 {q:Nat} {V V':AV} {κ:TypeId} {l:List aT} (hb:l.length≤4294967296∧l.length≤1) (hq:fH (bO [.vw (aD,q),.clo 76 []] [V]) (aD,q)=.own κ 2 (l.map bK))
  (hV:aX (fV (bO [.vw (aD,q),.clo 76 []] [V]) (aD,q) (.own κ 2 ((@id (List aT) l).map bK))) aD=V'):aG Tryz.prog 75 [.vw (aD,q),.clo 76 []] [V] (.tup []) [V']:=by
 obtain ⟨r,m,hm⟩:∃ (r:aT) (m:List (Row1 r)),l=m.map Subtype.val:=by
  match l,hb.2 with
  | [],_=>exact ⟨⟨0,0⟩,[],rfl⟩
  | [x],_=>exact ⟨x,[⟨x,rfl⟩],rfl⟩
 have e:l.map bK=m.map fun x=>bK x.1:=by rw [hm,List.map_map]; rfl
 have e2:(@id (List aT) l).map bK=m.map fun x=>bK x.1:=e
 rw [e] at hq
 rw [e2] at hV
 have hl:m.length=l.length:=by rw [hm,List.length_map]
 refine aG.cY3 (α:=Row1 r) (c:=fun x=>bK x.1) (sz:=2) (l:=m) (l':=m) ⟨_,Tryz.func75,by kernel_rfl,by kernel_rfl⟩ encR (fun _=>rfl) (fun x=>⟨rfl,fun d hd=>?_⟩) rfl hq hV (fun blk off cap w hH hb'=>?_) (fun p cap w=>AnyF.slices_SortFunc_none { Tryz.cV5 with } p cap _ w)
 ·rcases List.mem_cons.1 hd with rfl | hd
  ·rfl
  ·rw [List.mem_singleton.1 hd]; rfl
 ·have eg:∀ args w,(callFunc 76 args).run Tryz.prog w=.ok (.enter 76 args) w:=enters_of Tryz.func76 (by kernel_rfl) rfl
  have h:=AnyQ.slices_SortFunc_eq Tryz.cV5 2 Tryz.isAgg126 Tryz.sizeOf126 encR (fun _=>rfl) (fun x v hv=>by simp [encR] at hv; rcases hv with rfl | rfl <;> rfl) cfR dB6 76 #[] blk off cap m.toArray w eg (fun _ _ _ _ x y=>cT8 x y _) hH hb' (by simp; omega)
  rw [cK4] at h
  exact h
set_option maxHeartbeats 1000000 in
set_option maxRecDepth 100000 in
theorem cR4 (cap:Array Value) (w:World) (h:cap.size=3):CallsD Tryz.prog 105 cap .returning w fun e u' w'=>u'=.returning∧(∃ v,e=.returned v)∧w'=w:=by
 refine callsD_of_wpS Tryz.func105 rfl fun c₀ cs hu=>?_
 obtain ⟨a,b,c,rfl⟩:∃ a b c,cap=#[a,b,c]:=by
  obtain ⟨l⟩:=cap
  match l,h with
  | [a,b,c],_=>exact ⟨a,b,c,rfl⟩
 apply wpS_seq
 apply wpS_region
 simp [wpOpsS,go_sem,recoverD,hu,Tryz.ntmps105,Exit.thenS]
 refine wpS_of_wp ?_
 go_wp2
 exact ⟨rfl,.returning,by rw [← hu],.tuple #[],results_none rfl _ _ _,rfl,⟨_,rfl⟩,rfl⟩
set_option maxHeartbeats 1000000 in
set_option maxRecDepth 100000 in
theorem cW9 (cap:Array Value) (w:World) (h:cap.size=2):CallsD Tryz.prog 27 cap .returning w fun e u' w'=>u'=.returning∧(∃ v,e=.returned v)∧w'=w:=by
 refine callsD_of_wpS Tryz.func27 rfl fun c₀ cs hu=>?_
 obtain ⟨a,b,rfl⟩:∃ a b,cap=#[a,b]:=by
  obtain ⟨l⟩:=cap
  match l,h with
  | [a,b],_=>exact ⟨a,b,rfl⟩
 apply wpS_seq
 apply wpS_region
 simp [wpOpsS,go_sem,recoverD,hu,Tryz.ntmps27,Exit.thenS]
 refine wpS_of_wp ?_
 go_wp2
 exact ⟨rfl,.returning,by rw [← hu],.tuple #[],results_none rfl _ _ _,rfl,⟨_,rfl⟩,rfl⟩
end Go.Vm.PgfG
namespace Go.Vm.PgfG
open Go.Proofs Go.RowKit
theorem cZ3 {l:List bC} (h:l.length≤1):lM 0 l=some l:=by
 unfold lM
 rw [chk,if_pos (by simp; omega)]
 rfl
theorem cY8 {l:List aJ} (h:l.length≤1):iV 0 l=some l:=by
 unfold iV
 rw [chk,if_pos (by simp; omega)]
 rfl
theorem aL5 {F:Nat} {a0:List bC} {r:List bC} (h:uK F a0=some r):aG Tryz.prog 31 [.d (.sl 2 (a0.map bP))] [.glo 6 bF6] (.d (.sl 2 (r.map bP))) [.glo 6 bF6]:=by
 unfold uK bZ8 at h
 split at h
 case h_2=>cases h
 rename_i d
 split at h
 case h_2=>cases h
 rename_i x hx
 obtain ⟨y,hy,h⟩:=aH h
 cases h
 obtain ⟨root,items⟩:=d
 have hx:items=[x]:=hx
 subst hx
 obtain ⟨num,o,dt⟩:=x
 obtain ⟨y,e⟩:=y
 refine aG.cK2 ⟨_,Tryz.func31,by kernel_rfl,by kernel_rfl⟩ (fun j=>by cases j <;> rfl) (fun l a e=>by cases e) rfl ?_
 intro w S β us hus hS hG hrd
 match us,hus with
 | [u],_ =>
  have hu:RD S w (.sl 2 [bP ⟨root,[⟨num,o,dt⟩]⟩]) u:=hrd 0 _ u rfl rfl
  refine (cH5 (fun l hl=>yC (cZ3 hl)) (fun l hl=>pA (cY8 hl)) w hS hG (bC4 hy) hu).mono ?_
  rintro e w' ⟨v,rfl,h1,h2⟩
  exact ⟨v,rfl,h1,fun _=>h2⟩
end Go.Vm.PgfG
