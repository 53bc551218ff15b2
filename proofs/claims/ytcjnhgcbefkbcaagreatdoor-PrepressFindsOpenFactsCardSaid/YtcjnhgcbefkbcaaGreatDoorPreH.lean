import Derived.Shelf.SlSortCmp.WholeK
import Derived.Shelf.SlSortCmp.NoneTotal
import Derived.Test.YtcjnhgcbefkbcaaGreatDoorVmD
import Derived.Test.YtcjnhgcbefkbcaaGreatDoorProg
import Derived.Test.YtcjnhgcbefkbcaaGreatDoorPreLa
import Derived.Sort.AssemblyPlain
namespace Go.Proofs
open Go.Shelf
def Tryz.sortF_ren:Go.Shelf.Ren:=⟨fun | 6=>20 | 15=>45 | 14=>44 | 28=>72 | 29=>73 | 20=>64 | 21=>65 | 22=>66 | 23=>67 | 24=>68 | 25=>69 | 26=>70 | 27=>71 | 46=>92 | 47=>93 | 48=>94 | 49=>95 | 50=>96 | 57=>104 | n=>n,fun | 22=>36 | 24=>51 | 25=>57 | 3=>3 | 39=>84 | 0=>0 | 53=>121 | 55=>123 | 4=>4 | 46=>115 | 45=>114 | 50=>74 | 5=>5 | 9=>9 | 66=>138 | 70=>142 | 76=>150 | 77=>151 | n=>n,fun | n=>n⟩
theorem Tryz.sortF:Go.Proofs.SlLaysF0.n6 Tryz.prog Tryz.sortF_ren:={
  mixed:=by kernel_rfl
  f6:=⟨Tryz.f20.name,by decide,Tryz.func20.trans (congrArg some (by kernel_rfl))⟩
  f14:=⟨Tryz.f44.name,by decide,Tryz.func44.trans (congrArg some (by kernel_rfl))⟩
  f15:=Tryz.func45.trans (congrArg some (by kernel_rfl))
  f20:=⟨Tryz.f64.name,by decide,Tryz.func64.trans (congrArg some (by kernel_rfl))⟩
  f21:=⟨Tryz.f65.name,by decide,Tryz.func65.trans (congrArg some (by kernel_rfl))⟩
  f22:=⟨Tryz.f66.name,by decide,Tryz.func66.trans (congrArg some (by kernel_rfl))⟩
  f23:=⟨Tryz.f67.name,by decide,Tryz.func67.trans (congrArg some (by kernel_rfl))⟩
  f24:=⟨Tryz.f68.name,by decide,Tryz.func68.trans (congrArg some (by kernel_rfl))⟩
  f25:=⟨Tryz.f69.name,by decide,Tryz.func69.trans (congrArg some (by kernel_rfl))⟩
  f26:=⟨Tryz.f70.name,by decide,Tryz.func70.trans (congrArg some (by kernel_rfl))⟩
  f27:=⟨Tryz.f71.name,by decide,Tryz.func71.trans (congrArg some (by kernel_rfl))⟩
  f28:=Tryz.func72.trans (congrArg some (by kernel_rfl))
  f29:=Tryz.func73.trans (congrArg some (by kernel_rfl))
  f46:=⟨Tryz.f92.name,by decide,Tryz.func92.trans (congrArg some (by kernel_rfl))⟩
  f47:=Tryz.func93.trans (congrArg some (by kernel_rfl))
  f48:=Tryz.func94.trans (congrArg some (by kernel_rfl))
  f49:=⟨Tryz.f95.name,by decide,Tryz.func95.trans (congrArg some (by kernel_rfl))⟩
  f50:=⟨Tryz.f96.name,by decide,Tryz.func96.trans (congrArg some (by kernel_rfl))⟩
  f57:=⟨Tryz.f104.name,by decide,Tryz.func104.trans (congrArg some (by kernel_rfl))⟩
  t0:=Tryz.underlying0
  a0:=Tryz.isAgg0
  z0:=Tryz.sizeOf0
  v0:=Tryz.zeroValue0
  t3:=Tryz.underlying3
  a3:=Tryz.isAgg3
  z3:=Tryz.sizeOf3
  v3:=Tryz.zeroValue3
  t4:=Tryz.underlying4
  a4:=Tryz.isAgg4
  z4:=Tryz.sizeOf4
  v4:=Tryz.zeroValue4
  t5:=Tryz.underlying5
  a5:=Tryz.isAgg5
  z5:=Tryz.sizeOf5
  v5:=Tryz.zeroValue5
  t9:=Tryz.underlying9
  a9:=Tryz.isAgg9
  z9:=Tryz.sizeOf9
  v9:=Tryz.zeroValue9
  t22:=Tryz.underlying36
  a22:=Tryz.isAgg36
  z22:=Tryz.sizeOf36
  v22:=Tryz.zeroValue36
  t25:=Tryz.underlying57
  a25:=Tryz.isAgg57
  z25:=Tryz.sizeOf57
  v25:=Tryz.zeroValue57
  t39:=Tryz.underlying84
  a39:=Tryz.isAgg84
  z39:=Tryz.sizeOf84
  v39:=Tryz.zeroValue84
  t45:=Tryz.underlying114
  a45:=Tryz.isAgg114
  z45:=Tryz.sizeOf114
  v45:=Tryz.zeroValue114
  t46:=Tryz.underlying115
  a46:=Tryz.isAgg115
  z46:=Tryz.sizeOf115
  v46:=Tryz.zeroValue115
  t50:=Tryz.underlying74
  a50:=Tryz.isAgg74
  z50:=Tryz.sizeOf74
  v50:=Tryz.zeroValue74
  t53:=Tryz.underlying121
  a53:=Tryz.isAgg121
  z53:=Tryz.sizeOf121
  v53:=Tryz.zeroValue121
  t55:=Tryz.underlying123
  a55:=Tryz.isAgg123
  z55:=Tryz.sizeOf123
  v55:=Tryz.zeroValue123
  t66:=Tryz.underlying138
  a66:=Tryz.isAgg138
  z66:=Tryz.sizeOf138
  v66:=Tryz.zeroValue138
  t70:=Tryz.underlying142
  a70:=Tryz.isAgg142
  z70:=Tryz.sizeOf142
  v70:=Tryz.zeroValue142
  t76:=Tryz.underlying150
  a76:=Tryz.isAgg150
  z76:=Tryz.sizeOf150
  v76:=Tryz.zeroValue150
  t77:=Tryz.underlying151
  a77:=Tryz.isAgg151
  z77:=Tryz.sizeOf151
  v77:=Tryz.zeroValue151 }
end Go.Proofs
namespace Go.Vm.PreG
open Go.Proofs Go.RowKit Go.Sort
def encF (x:S_PrepressFact):List Value:=[.string ⟨x.f0.toArray⟩,.int .i64 x.f1]
def cfF (x y:S_PrepressFact):Int:=bif Op.bytesLess x.f0 y.f0 then -1 else 1
instance instFact:Inhabited S_PrepressFact:=⟨S_PrepressFact.mk [] 0⟩
set_option maxHeartbeats 1000000 in
set_option maxRecDepth 100000 in
theorem cmp_walk (x y:S_PrepressFact) (W:World):Calls Tryz.prog 21 #[.agg #[.string ⟨x.f0.toArray⟩,.int .i64 x.f1],.agg #[.string ⟨y.f0.toArray⟩,.int .i64 y.f1]] W fun e w'=>e=.returned (.int .i64 (cfF x y))∧∃ q os',w'=grow (W.drewN q) os':=by
  go_enter Tryz.func21,Tryz.ntmps21
  go_wp2
  all_goals
    rename_i hc
    go_ret
    exact ⟨by simp [cfF,hc],0,_,by rw [alloc_eq_grow,alloc_eq_grow,grow_grow]; rfl⟩
theorem lt_cf (x y:S_PrepressFact):ltOf cfF x y=Op.bytesLess x.f0 y.f0:=by
  unfold ltOf cfF
  cases Op.bytesLess x.f0 y.f0 <;> rfl
theorem swoF:SWO (ltOf cfF) where
  irrefl x:=by rw [lt_cf]; exact bL_irr _
  trans x y z h1 h2:=by rw [lt_cf] at *; exact bL_trans h1 h2
  ntrans x y z h1 h2:=by
    rw [lt_cf] at *
    cases h3:Op.bytesLess x.f0 z.f0 with
    | false=>rfl
    | true =>
      have h4:=bL_tri x.f0 y.f0
      rw [h1] at h4
      simp only [Bool.not_false,Bool.true_eq,Bool.or_eq_true,beq_iff_eq] at h4
      rcases h4 with h4 | h4
      · rw [bL_trans h4 h3] at h2; cases h2
      · rw [h4,h3] at h2; cases h2
theorem ltF:ltOf cfF=fun x y=>Op.bytesLess x.f0 y.f0:=funext fun x=>funext fun y=>lt_cf x y
theorem sortF_perm (l:List S_PrepressFact):PermIn 0 l.toArray.size l.toArray (Sort.pdq (fun x y=>Op.bytesLess x.f0 y.f0) l.toArray 0 l.length (Lib.bitLen l.length) true true)∧SortedIn (fun (x y:S_PrepressFact)=>Op.bytesLess x.f0 y.f0) 0 l.toArray.size (Sort.pdq (fun x y=>Op.bytesLess x.f0 y.f0) l.toArray 0 l.length (Lib.bitLen l.length) true true):=by
  have h:=pdq_sorts (ltOf cfF) swoF l.toArray 0 l.toArray.size (Lib.bitLen l.toArray.size) true true (Nat.zero_le _) (Nat.le_refl _) (Or.inl rfl)
  rw [ltF] at h
  exact h
theorem sortF_len (l:List S_PrepressFact):(@sortBy S_PrepressFact ⟨S_PrepressFact.mk [] 0⟩ (fun x y=>Op.bytesLess x.f0 y.f0) l).length=l.length:=by
  have h:=(sortF_perm l).1.1
  show (Sort.pdq (fun x y:S_PrepressFact=>Op.bytesLess x.f0 y.f0) l.toArray 0 l.length (Lib.bitLen l.length) true true).toList.length=l.length
  simpa using h
set_option maxHeartbeats 1000000 in
set_option maxRecDepth 100000 in
theorem b_SortF_20 {q:Nat} {V V':AV} {κ:TypeId} {l:List S_PrepressFact} (hb:l.length≤4294967296) (hq:pget (finFr [.vw (virtBase,q),.clo 21 []] [V]) (virtBase,q)=.own κ 2 (l.map cS_PrepressFact))
    (hV:fget (pset (finFr [.vw (virtBase,q),.clo 21 []] [V]) (virtBase,q) (.own κ 2 ((@sortBy S_PrepressFact ⟨S_PrepressFact.mk [] 0⟩ (fun x y=>Op.bytesLess x.f0 y.f0) l).map cS_PrepressFact))) virtBase=V'):ACall Tryz.prog 20 [.vw (virtBase,q),.clo 21 []] [V] (.tup []) [V']:=by
  refine ACall.sortFK (α:=S_PrepressFact) (c:=cS_PrepressFact) (sz:=2) ⟨_,Tryz.func20,by kernel_rfl,by kernel_rfl⟩ encF (fun _=>rfl) (fun x=>⟨rfl,fun d hd=>?_⟩) (sortF_len l) hq hV (fun blk off cap w hH hb'=>?_) (fun p cap w=>AnyF.slices_SortFunc_none { Tryz.sortF with } p cap _ w)
  · rcases List.mem_cons.1 hd with rfl | hd
    · rfl
    · rw [List.mem_singleton.1 hd]; rfl
  · have eg:∀ args w,(callFunc 21 args).run Tryz.prog w=.ok (.enter 21 args) w:=enters_of Tryz.func21 (by kernel_rfl) rfl
    have h:=AnyQ.slices_SortFunc_eq Tryz.sortF 2 Tryz.isAgg51 Tryz.sizeOf51 encF (fun _=>rfl) (fun x v hv=>by simp [encF] at hv; rcases hv with rfl | rfl <;> rfl) cfF swoF 21 #[] blk off cap l.toArray w eg (fun _ _ _ _ x y=>cmp_walk x y _) hH hb' (by simp; omega)
    rw [ltF] at h
    exact h
end Go.Vm.PreG
