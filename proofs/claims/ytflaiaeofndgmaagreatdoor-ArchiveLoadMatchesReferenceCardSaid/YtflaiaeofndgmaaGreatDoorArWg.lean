/-
  archive.number: what it answers,in a world in which the package's variables are laid.
-/
import Derived.Test.YtflaiaeofndgmaaGreatDoorArWf
import Derived.Test.YtflaiaeofndgmaaGreatDoorArSh
import Derived.Lib.AtoiErrMem
import Derived.Lib.AppendIntMem
namespace Go.Vm.ArzG
open Go.Proofs
open Go.RowKit Go.Shelf Go.Vm.ArzM
/-- The variables that the library's numbers lean on. -/
structure Laid (w:World):Prop where
 tbl:Tbl w
 pow:GloAt (allS w) w 6 (Lib.pow10Tab.flatMap (cI .u64))
 es:∃ te pe,w.cell? ⟨4,0,none⟩=some (.iface te pe)
 er:∃ te pe,w.cell? ⟨5,0,none⟩=some (.iface te pe)
theorem Laid.next {W0 w:World} (h:Laid W0) (hb:Below W0.heap.size W0 w):Laid w :=
 ⟨h.tbl.next hb,h.pow.mono (fun b h1=>Nat.lt_of_lt_of_le h1 hb.size) (fun b h1=>hb.block b h1),
  h.es.imp fun te h=>h.imp fun pe h=>(hb.cell (World.block_lt_of_cell? W0 _ h)).trans h,h.er.imp fun te h=>h.imp fun pe h=>(hb.cell (World.block_lt_of_cell? W0 _ h)).trans h⟩
/-- What number answers. -/
def numF (s:List UInt8):Int×Bool:=match Lib.atoiAll s with
 | .ok v=>(v,decide (0≤v) && decide (s.length < 10) && decide (Lib.itoa v=s))
 | .range=>(Lib.atoiSat s,false)
 | Lib.NumEnd.syntax=>(0,false)
theorem atoi_le {s:List UInt8} {v:Int} (h:Lib.atoiAll s=.ok v):v≤9223372036854775807:=by
 unfold Lib.atoiAll at h
 split at h
 ·cases h
 ·dsimp only at h
  split at h
  ·cases h
  ·cases h
  ·split at h
   ·cases h
   ·split at h
    ·cases h
    ·cases h
     split <;> omega
theorem Itoa_at {w:World} (hl:Laid w) {n:Int} (h0:0≤n) (h1:n≤9223372036854775807):Calls Tryz.prog 62 #[.int .i64 n] w fun e w'=>e=.returned (strOf (Lib.itoa n))∧Below w.heap.size w w':=by
 refine (Tryz.strconv_Itoa n (by omega) h1 w (TabIs.of_glo (by kernel_rfl) hl.pow)).mono ?_
 rintro e w' ⟨rfl,k,os,rfl⟩
 exact ⟨rfl,Lib.below_grow _ _ (Nat.le_refl _) _ _⟩
theorem Atoi_at {w:World} (hl:Laid w) {s:List UInt8} (hs:s.length≤1000000000):Calls Tryz.prog 61 #[strOf s] w fun e w'=>(∃ v:Int,Lib.atoiAll s=.ok v∧e=.returned (.tuple #[.int .i64 v,.nilIface])∧Below w.heap.size w w') ∨
  (∀ v,Lib.atoiAll s≠.ok v)∧∃ N,e=.returned (.tuple #[.int .i64 (numF s).1,.iface 127 (.pointer (some ⟨N,0,none⟩))])∧Below w.heap.size w w':=by
 have hsz:(⟨s.toArray⟩:ByteArray).size=s.length:=by simp [ByteArray.size]
 match hA:Lib.atoiAll s with
 | .ok v =>
  refine (Tryz.strconv_Atoi_ok ⟨s.toArray⟩ (by rw [hsz]; omega) v hA w).mono ?_
  rintro e w' ⟨rfl,h⟩
  refine .inl ⟨v,rfl,rfl,?_⟩
  rcases h with rfl | ⟨t,rfl⟩
  ·exact Below.refl _ _
  ·exact Lib.bytesWorld_below _ _ _
 | Lib.NumEnd.syntax =>
  obtain ⟨te,pe,h⟩:=hl.es
  refine (Tryz.strconv_Atoi_syntax ⟨s.toArray⟩ (by rw [hsz]; omega) hA _ w h (.inr ⟨_,_,rfl⟩)).mono ?_
  rintro e w' ⟨N,rfl,_,_,hb⟩
  exact .inr ⟨(fun v h=>by (try rw [hA] at h); cases h),N,(by unfold numF; rw [hA]),hb⟩
 | .range =>
  obtain ⟨te,pe,h⟩:=hl.er
  refine (Tryz.strconv_Atoi_range ⟨s.toArray⟩ (by rw [hsz]; omega) hA _ w h (.inr ⟨_,_,rfl⟩)).mono ?_
  rintro e w' ⟨N,rfl,_,_,hb⟩
  exact .inr ⟨(fun v h=>by (try rw [hA] at h); cases h),N,(by unfold numF; rw [hA]),hb⟩
set_option maxRecDepth 100000 in
set_option maxHeartbeats 4000000 in
theorem number_at {w:World} (hl:Laid w) {s:List UInt8} (hs:s.length≤1000000000):Calls Tryz.prog 42 #[strOf s] w fun e w'=>e=.returned (.tuple ⟨[.int .i64 (numF s).1,.bool (numF s).2]⟩)∧Below w.heap.size w w':=by
  unfold strOf
  go_enter Tryz.func42,Tryz.ntmps42
  go_wp2_with (go_at_fn 61)
  refine (Atoi_at hl hs).mono ?_
  rintro e w1 (⟨v,hA,rfl,hb⟩ | ⟨hA,N,rfl,hb⟩)
  · have hn:numF s=(v,decide (0≤v) && decide (s.length < 10) && decide (Lib.itoa v=s)):=by unfold numF; rw [hA]
    by_cases hv:0≤v
    · by_cases h10:s.length < 10
      · have h10':(s.length:Int) < 10:=by omega
        go_wp2_with (go_at_fn 62)
        refine (Itoa_at (hl.next hb) hv ?_).mono ?_
        · exact atoi_le hA
        rintro e w2 ⟨rfl,hb2⟩
        unfold strOf
        go_wp2
        go_ret2
        (try rw [hn])
        refine ⟨?_,hb.trans (hb2.mono hb.size)⟩
        have e:(Lib.itoa v == s)=(decide (0≤v) && decide (s.length < 10) && decide (Lib.itoa v=s)):=by
          rw [decide_eq_true hv,decide_eq_true h10,Bool.true_and,Bool.true_and]
          by_cases h:Lib.itoa v=s <;> simp [h]
        show Ending.returned (.tuple ⟨[.int .i64 v,.bool (Lib.itoa v == s)]⟩)=_
        rw [e]
      · have h10':¬ (s.length:Int) < 10:=by omega
        go_wp2
        go_ret2
        (try rw [hn])
        exact ⟨by simp [h10],hb⟩
    · go_wp2
      go_ret2
      (try rw [hn])
      exact ⟨by (have hv':¬ 0≤v:=by omega); simp [hv'],hb⟩
  · have hn:(numF s).2=false:=by
      unfold numF
      split
      · rename_i v h
        exact absurd h (hA v)
      · rfl
      · rfl
    go_wp2
    go_ret2
    (try rw [hn])
    exact ⟨rfl,hb⟩
end Go.Vm.ArzG
