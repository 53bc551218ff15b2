import Derived.Test.YtmaolabjdmhinaaDoorProg
import Derived.Test.YtmaolabjdmhinaaDoorFilGF
import Derived.Test.YtmaolabjdmhinaaDoorFilGB
namespace Go.Vm.FilG
open Go.Proofs
set_option maxRecDepth 20000
theorem mixed : Tryd.prog.follows .mixedOrders = true := by kernel_rfl
theorem filter_Check_ok {F : Nat} {a0 : List S_FilterStep} {r : Int} (h : filter_Check F a0 = some r) : ACall Tryd.prog 18 [.d (.sl 2 (a0.map cS_FilterStep))] [] (.d (.v (.int .i64 r))) [] := by
  rw [filter_Check] at h
  refine ACall.intro (N := 47) Tryd.func18 rfl rfl rfl rfl rfl fun e => ?_
  refine T_region [] [0] [] [(0, .d (.sl 2 (a0.map cS_FilterStep)))] [] 1 (by kernel_rfl) (trivial) ?_
  refine T_seqk ?_
  refine T_region [(1, { rw := some (.d (.v (.int .i64 (a0.length : Int)))) })] [0, 7] [] [(0, .d (.sl 2 (a0.map cS_FilterStep))), (7, .d (.v (.bool (decide ((a0.length : Int) > (4 : Int))))))] [(1, True ∧ AV.d (.v (.int .i64 ((a0.map cS_FilterStep).length : Int))) = .d (.v (.int .i64 (a0.length : Int))))] 1 (by kernel_rfl) (len_ok cS_FilterStep) ?_
  refine T_cond (decide ((a0.length : Int) > (4 : Int))) (by kernel_rfl) (fun hc => ?_) (fun hc => ?_)
  · have h := cond_tt hc h
    refine T_region [] [2] [] [(2, .d (.v (.int .i64 (2 : Int))))] [] 1 (by kernel_rfl) (trivial) ?_
    obtain hs := Option.some.inj h; subst hs
    refine T_ret fun a w hm => then_ret (T_return (fr' := [(2, .d (.v (.int .i64 (2 : Int))))]) [2] (by kernel_rfl) [.keep [2]] (by kernel_rfl) (by kernel_rfl) (by kernel_rfl) (by show _ = _; kernel_rfl) (by exact trivial) a w hm)
  · have h := cond_ff hc h
    refine T_skip fun a w hm => then_norm (((?_ : T Tryd.prog e 47 _ _ _) a w hm))
    refine T_seqk ?_
    refine T_region [(1, { rw := some (.d (.v (.int .i64 (a0.length : Int)))) })] [8, 9, 10] [] [(8, .d (.sl 2 (a0.map cS_FilterStep))), (9, .d (.v (.int .i64 (a0.length : Int)))), (10, .d (.v (.int .i64 (0 : Int))))] [(1, True ∧ AV.d (.v (.int .i64 ((a0.map cS_FilterStep).length : Int))) = .d (.v (.int .i64 (a0.length : Int))))] 1 (by kernel_rfl) (len_ok cS_FilterStep) ?_
    refine T_joinEt h (fun (p : Unit) => []) (fun s h hk1 => ?_) (fun s h => ?_)
    · refine T_co [.keep [8, 9, 10]] ((fun (p : Int) => [(8, .d (.sl 2 (a0.map cS_FilterStep))), (9, .d (.v (.int .i64 (a0.length : Int)))), (10, .d (.v (.int .i64 p)))]) (0 : Int)) (by show _ = _; kernel_rfl) ?_
      refine T_block ?_
      refine T_loopF (ι := Int) (fun (p : Int) => [(8, .d (.sl 2 (a0.map cS_FilterStep))), (9, .d (.v (.int .i64 (a0.length : Int)))), (10, .d (.v (.int .i64 p)))]) (fun n p => filter_Check_L0 F a0 n p = some s) (fun i hh => by simp [filter_Check_L0] at hh) (fun n v1 h => ?_) F (0 : Int) h
      have h : filter_Check_L0 F a0 (n + 1) v1 = some s := h
      rw [filter_Check_L0] at h
      refine T_region [] [8, 9, 10, 11] [] [(8, .d (.sl 2 (a0.map cS_FilterStep))), (9, .d (.v (.int .i64 (a0.length : Int)))), (10, .d (.v (.int .i64 v1))), (11, .d (.v (.bool (decide (v1 < (a0.length : Int))))))] [] 1 (by kernel_rfl) (trivial) ?_
      refine T_seqk ?_
      refine T_cond (decide (v1 < (a0.length : Int))) (by kernel_rfl) (fun hc => ?_) (fun hc => ?_)
      · have h := cond_tt hc h
        refine T_skip fun a w hm => then_norm (((?_ : T Tryd.prog e 47 _ _ _) a w hm))
        refine T_seqk ?_
        refine T_block ?_
        obtain ⟨hp1, h⟩ := chk_ok h
        refine T_region [(0, { cs := cS_FilterStep (a0.getD v1.toNat (S_FilterStep.mk 0 0)) })] [4, 8, 9, 10] [] [(4, .box [.d (.v (.int .i64 ((a0.getD v1.toNat (S_FilterStep.mk 0 0)).f0))), .d (.v (.int .i64 ((a0.getD v1.toNat (S_FilterStep.mk 0 0)).f1)))]), (8, .d (.sl 2 (a0.map cS_FilterStep))), (9, .d (.v (.int .i64 (a0.length : Int)))), (10, .d (.v (.int .i64 v1)))] [(0, 0 ≤ v1 ∧ (a0.map cS_FilterStep)[v1.toNat]? = some (cS_FilterStep (a0.getD v1.toNat (S_FilterStep.mk 0 0))))] 3 (by kernel_rfl) (idx_ok (d := (S_FilterStep.mk 0 0)) cS_FilterStep hp1) ?_
        refine T_block ?_
        obtain ⟨z1, hz1, h⟩ := lett_ok h
        refine T_region [(7, { rw := some (.d (.v (.bool z1))) })] [4, 8, 9, 10, 14] [] [(4, .box [.d (.v (.int .i64 ((a0.getD v1.toNat (S_FilterStep.mk 0 0)).f0))), .d (.v (.int .i64 ((a0.getD v1.toNat (S_FilterStep.mk 0 0)).f1)))]), (8, .d (.sl 2 (a0.map cS_FilterStep))), (9, .d (.v (.int .i64 (a0.length : Int)))), (10, .d (.v (.int .i64 v1))), (14, .d (.v (.bool z1)))] [(4, ((((decide (((a0.getD v1.toNat (S_FilterStep.mk 0 0)).f0) < (1 : Int))) == false) && true) = true → True)), (0, ((((decide (((a0.getD v1.toNat (S_FilterStep.mk 0 0)).f0) < (1 : Int))) == false) && true) = true → True)), (0, ((((decide (((a0.getD v1.toNat (S_FilterStep.mk 0 0)).f0) < (1 : Int))) == false) && true) = true → True)), (0, (True) ∧ AV.d (.v (.bool (bif (decide (((a0.getD v1.toNat (S_FilterStep.mk 0 0)).f0) < (1 : Int))) then true else (decide (((a0.getD v1.toNat (S_FilterStep.mk 0 0)).f0) > (4 : Int)))))) = .d (.v (.bool z1)))] 1 (by kernel_rfl) (⟨(fun hg => trivial), (fun hg => trivial), (fun hg => trivial), ⟨trivial, (by subst hz1; rfl)⟩⟩) ?_
        refine T_cond z1 (by kernel_rfl) (fun hc => ?_) (fun hc => ?_)
        · have h := cond_tt hc h
          refine T_region [] [2] [] [(2, .d (.v (.int .i64 (14 : Int))))] [] 1 (by kernel_rfl) (trivial) ?_
          obtain hs := Option.some.inj h; subst hs
          have h := callE_esc hk1
          obtain hs := Option.some.inj h; subst hs
          refine T_ret fun a w hm => inBlock_ret (inBlock_ret (then_ret (then_ret (inBlock_ret (then_ret (then_ret (T_return (fr' := [(2, .d (.v (.int .i64 (14 : Int))))]) [2] (by kernel_rfl) [.keep [2]] (by kernel_rfl) (by kernel_rfl) (by kernel_rfl) (by show _ = _; kernel_rfl) (by exact trivial) a w hm)))))))
        · have h := cond_ff hc h
          obtain ⟨z2, hz2, h⟩ := lett_ok h
          refine T_region [(11, { rw := some (.d (.v (.bool z2))) })] [4, 8, 9, 10, 23] [] [(4, .box [.d (.v (.int .i64 ((a0.getD v1.toNat (S_FilterStep.mk 0 0)).f0))), .d (.v (.int .i64 ((a0.getD v1.toNat (S_FilterStep.mk 0 0)).f1)))]), (8, .d (.sl 2 (a0.map cS_FilterStep))), (9, .d (.v (.int .i64 (a0.length : Int)))), (10, .d (.v (.int .i64 v1))), (23, .d (.v (.bool (bif (((a0.getD v1.toNat (S_FilterStep.mk 0 0)).f0) == (2 : Int)) then z2 else false))))] [(4, ((((((a0.getD v1.toNat (S_FilterStep.mk 0 0)).f0) == (2 : Int)) == true) && true) = true → True)), (0, ((((((a0.getD v1.toNat (S_FilterStep.mk 0 0)).f0) == (2 : Int)) == true) && true) = true → True)), (0, ((((((a0.getD v1.toNat (S_FilterStep.mk 0 0)).f0) == (2 : Int)) == true) && true) = true → True)), (0, ((((((a0.getD v1.toNat (S_FilterStep.mk 0 0)).f0) == (2 : Int)) == true) && true) = true → True)), (0, ((((decide (((a0.getD v1.toNat (S_FilterStep.mk 0 0)).f1) < (1 : Int))) == false) && (((((a0.getD v1.toNat (S_FilterStep.mk 0 0)).f0) == (2 : Int)) == true) && true)) = true → True)), (0, ((((decide (((a0.getD v1.toNat (S_FilterStep.mk 0 0)).f1) < (1 : Int))) == false) && (((((a0.getD v1.toNat (S_FilterStep.mk 0 0)).f0) == (2 : Int)) == true) && true)) = true → True)), (0, ((((decide (((a0.getD v1.toNat (S_FilterStep.mk 0 0)).f1) < (1 : Int))) == false) && (((((a0.getD v1.toNat (S_FilterStep.mk 0 0)).f0) == (2 : Int)) == true) && true)) = true → True)), (0, ((((((a0.getD v1.toNat (S_FilterStep.mk 0 0)).f0) == (2 : Int)) == true) && true) = true → (True) ∧ AV.d (.v (.bool (bif (decide (((a0.getD v1.toNat (S_FilterStep.mk 0 0)).f1) < (1 : Int))) then true else (decide (((a0.getD v1.toNat (S_FilterStep.mk 0 0)).f1) > (1024 : Int)))))) = .d (.v (.bool z2))))] 2 (by kernel_rfl) (⟨(fun hg => trivial), (fun hg => trivial), (fun hg => trivial), (fun hg => trivial), (fun hg => trivial), (fun hg => trivial), (fun hg => trivial), (fun hg => ⟨trivial, (by subst hz2; rfl)⟩)⟩) ?_
          refine T_cond (bif (((a0.getD v1.toNat (S_FilterStep.mk 0 0)).f0) == (2 : Int)) then z2 else false) (by kernel_rfl) (fun hc => ?_) (fun hc => ?_)
          · have h := cond_tt hc h
            refine T_region [] [2] [] [(2, .d (.v (.int .i64 (3 : Int))))] [] 1 (by kernel_rfl) (trivial) ?_
            obtain hs := Option.some.inj h; subst hs
            have h := callE_esc hk1
            obtain hs := Option.some.inj h; subst hs
            refine T_ret fun a w hm => inBlock_ret (inBlock_ret (then_ret (then_ret (inBlock_ret (then_ret (then_ret (T_return (fr' := [(2, .d (.v (.int .i64 (3 : Int))))]) [2] (by kernel_rfl) [.keep [2]] (by kernel_rfl) (by kernel_rfl) (by kernel_rfl) (by show _ = _; kernel_rfl) (by exact trivial) a w hm)))))))
          · have h := cond_ff hc h
            obtain ⟨z3, hz3, h⟩ := lett_ok h
            refine T_region [(7, { rw := some (.d (.v (.bool z3))) })] [8, 9, 10, 37] [] [(8, .d (.sl 2 (a0.map cS_FilterStep))), (9, .d (.v (.int .i64 (a0.length : Int)))), (10, .d (.v (.int .i64 v1))), (37, .d (.v (.bool z3)))] [(4, ((((((a0.getD v1.toNat (S_FilterStep.mk 0 0)).f0) != (2 : Int)) == true) && true) = true → True)), (0, ((((((a0.getD v1.toNat (S_FilterStep.mk 0 0)).f0) != (2 : Int)) == true) && true) = true → True)), (0, ((((((a0.getD v1.toNat (S_FilterStep.mk 0 0)).f0) != (2 : Int)) == true) && true) = true → True)), (0, (True) ∧ AV.d (.v (.bool (bif (((a0.getD v1.toNat (S_FilterStep.mk 0 0)).f0) != (2 : Int)) then (((a0.getD v1.toNat (S_FilterStep.mk 0 0)).f1) != (0 : Int)) else false))) = .d (.v (.bool z3)))] 1 (by kernel_rfl) (⟨(fun hg => trivial), (fun hg => trivial), (fun hg => trivial), ⟨trivial, (by subst hz3; rfl)⟩⟩) ?_
            refine T_cond z3 (by kernel_rfl) (fun hc => ?_) (fun hc => ?_)
            · have h := cond_tt hc h
              refine T_region [] [2] [] [(2, .d (.v (.int .i64 (4 : Int))))] [] 1 (by kernel_rfl) (trivial) ?_
              obtain hs := Option.some.inj h; subst hs
              have h := callE_esc hk1
              obtain hs := Option.some.inj h; subst hs
              refine T_ret fun a w hm => inBlock_ret (inBlock_ret (then_ret (then_ret (inBlock_ret (then_ret (then_ret (T_return (fr' := [(2, .d (.v (.int .i64 (4 : Int))))]) [2] (by kernel_rfl) [.keep [2]] (by kernel_rfl) (by kernel_rfl) (by kernel_rfl) (by show _ = _; kernel_rfl) (by exact trivial) a w hm)))))))
            · have h := cond_ff hc h
              refine T_skip fun a w hm => inBlock_norm (inBlock_norm (then_norm (((?_ : T Tryd.prog e 47 _ _ _) a w hm))))
              refine T_region_end [] [8, 9, 10] [] [(8, .d (.sl 2 (a0.map cS_FilterStep))), (9, .d (.v (.int .i64 (a0.length : Int)))), (10, .d (.v (.int .i64 (IntKind.i64.wrap (v1 + (1 : Int))))))] [] 2 (by kernel_rfl) (trivial) fun a w hm => then_norm (⟨IntKind.i64.wrap (v1 + (1 : Int)), h, hm.co (cs := [.keep [8, 9, 10]]) (by show _ = _; kernel_rfl)⟩)
      · have h := cond_ff hc h
        obtain hs := Option.some.inj h; subst hs
        refine T_exit fun a w hm => then_exit (then_exit (inBlock_exit (then_norm (⟨_, rfl, hm.co (cs := [.keep []]) (by show _ = _; kernel_rfl)⟩))))
    · skip
      refine fun a w hm => then_norm (((?_ : T Tryd.prog e 47 _ _ _) a w hm))
      refine T_region [] [2] [] [(2, .d (.v (.int .i64 (0 : Int))))] [] 1 (by kernel_rfl) (trivial) ?_
      obtain hs := Option.some.inj h; subst hs
      refine T_ret fun a w hm => T_return (fr' := [(2, .d (.v (.int .i64 (0 : Int))))]) [2] (by kernel_rfl) [.keep [2]] (by kernel_rfl) (by kernel_rfl) (by kernel_rfl) (by show _ = _; kernel_rfl) (by exact trivial) a w hm

theorem filter_codingOf_ok {F : Nat} {a0 : S_FilterStep} {r : I_filter_coding} (h : filter_codingOf F a0 = some r) : ACall Tryd.prog 56 [.agg (cS_FilterStep a0)] [] (.d (.v (vI_filter_coding r))) [] := by
  rw [filter_codingOf] at h
  refine ACall.intro (N := 21) Tryd.func56 rfl rfl rfl rfl rfl fun e => ?_
  refine T_region [] [1] [] [(1, .box [.d (.v (.int .i64 a0.f0)), .d (.v (.int .i64 a0.f1))])] [] 2 (by kernel_rfl) (trivial) ?_
  refine T_seqk ?_
  refine T_region [] [1, 4] [] [(1, .box [.d (.v (.int .i64 a0.f0)), .d (.v (.int .i64 a0.f1))]), (4, .d (.v (.int .i64 a0.f0)))] [] 2 (by kernel_rfl) (trivial) ?_
  refine T_block ?_
  refine T_region [] [1, 4, 5] [] [(1, .box [.d (.v (.int .i64 a0.f0)), .d (.v (.int .i64 a0.f1))]), (4, .d (.v (.int .i64 a0.f0))), (5, .d (.v (.bool (a0.f0 == (1 : Int)))))] [] 2 (by kernel_rfl) (trivial) ?_
  refine T_cond (a0.f0 == (1 : Int)) (by kernel_rfl) (fun hc => ?_) (fun hc => ?_)
  · have h := cond_tt hc h
    refine T_region [] [2] [] [(2, .d (.v (vI_filter_coding (I_filter_coding.k_runs (S_filter_copies.mk )))))] [] 3 (by kernel_rfl) (trivial) ?_
    obtain hs := Option.some.inj h; subst hs
    refine T_ret fun a w hm => inBlock_ret (then_ret (T_return (fr' := [(2, .d (.v (vI_filter_coding (I_filter_coding.k_runs (S_filter_copies.mk )))))]) [2] (by kernel_rfl) [.keep [2]] (by kernel_rfl) (by kernel_rfl) (by kernel_rfl) (by show _ = _; kernel_rfl) (by exact trivial) a w hm))
  · have h := cond_ff hc h
    refine T_region [] [1, 4, 9] [] [(1, .box [.d (.v (.int .i64 a0.f0)), .d (.v (.int .i64 a0.f1))]), (4, .d (.v (.int .i64 a0.f0))), (9, .d (.v (.bool (a0.f0 == (2 : Int)))))] [] 2 (by kernel_rfl) (trivial) ?_
    refine T_cond (a0.f0 == (2 : Int)) (by kernel_rfl) (fun hc => ?_) (fun hc => ?_)
    · have h := cond_tt hc h
      refine T_region [] [2] [] [(2, .d (.v (vI_filter_coding (I_filter_coding.k_rows (S_filter_rows.mk a0.f1)))))] [] 5 (by kernel_rfl) (trivial) ?_
      obtain hs := Option.some.inj h; subst hs
      refine T_ret fun a w hm => inBlock_ret (then_ret (T_return (fr' := [(2, .d (.v (vI_filter_coding (I_filter_coding.k_rows (S_filter_rows.mk a0.f1)))))]) [2] (by kernel_rfl) [.keep [2]] (by kernel_rfl) (by kernel_rfl) (by kernel_rfl) (by show _ = _; kernel_rfl) (by exact trivial) a w hm))
    · have h := cond_ff hc h
      refine T_region [] [15] [] [(15, .d (.v (.bool (a0.f0 == (3 : Int)))))] [] 2 (by kernel_rfl) (trivial) ?_
      refine T_cond (a0.f0 == (3 : Int)) (by kernel_rfl) (fun hc => ?_) (fun hc => ?_)
      · have h := cond_tt hc h
        refine T_region [] [2] [] [(2, .d (.v (vI_filter_coding (I_filter_coding.k_copies (S_filter_copies.mk )))))] [] 3 (by kernel_rfl) (trivial) ?_
        obtain hs := Option.some.inj h; subst hs
        refine T_ret fun a w hm => inBlock_ret (then_ret (T_return (fr' := [(2, .d (.v (vI_filter_coding (I_filter_coding.k_copies (S_filter_copies.mk )))))]) [2] (by kernel_rfl) [.keep [2]] (by kernel_rfl) (by kernel_rfl) (by kernel_rfl) (by show _ = _; kernel_rfl) (by exact trivial) a w hm))
      · have h := cond_ff hc h
        refine T_skip fun a w hm => inBlock_norm (then_norm (((?_ : T Tryd.prog e 21 _ _ _) a w hm)))
        refine T_region [] [2] [] [(2, .d (.v (vI_filter_coding (I_filter_coding.k_text (S_filter_copies.mk )))))] [] 3 (by kernel_rfl) (trivial) ?_
        obtain hs := Option.some.inj h; subst hs
        refine T_ret fun a w hm => T_return (fr' := [(2, .d (.v (vI_filter_coding (I_filter_coding.k_text (S_filter_copies.mk )))))]) [2] (by kernel_rfl) [.keep [2]] (by kernel_rfl) (by kernel_rfl) (by kernel_rfl) (by show _ = _; kernel_rfl) (by exact trivial) a w hm

theorem strings_Builder_WriteString_ok {F : Nat} {a0 : List UInt8} {c1 : List UInt8} {r : Int × Unit × (List UInt8)} (h : strings_Builder_WriteString F a0 c1 = some r) : ACall Tryd.prog 90 [.bp 1000000 0, .d (.str a0)] [.box [.slf 0 89, .own 5 1 (c1.map cU)]] (.tup [.d (.v (.int .i64 r.1)), .d (.v .nilIface)]) [.box [.slf 0 89, .own 5 1 (r.2.2.map cU)]] := by
  rw [strings_Builder_WriteString] at h
  refine ACall.intro (N := 19) Tryd.func90 rfl rfl rfl rfl rfl fun e => ?_
  refine T_region [] [0, 1, 1000000] [] [(0, .bp 1000000 0), (1, .d (.str a0)), (1000000, .box [.slf 0 89, .own 5 1 (c1.map cU)])] [] 2 (by kernel_rfl) (trivial) ?_
  refine T_region [(1, { xs := [1000000], res := .tup [], vout := [.box [.slf 0 89, .own 5 1 (c1.map cU)]] })] [0, 1, 1000000] [] [(0, .bp 1000000 0), (1, .d (.str a0)), (1000000, .box [.slf 0 89, .own 5 1 (c1.map cU)])] [(1, ACall Tryd.prog 112 [.bp 1000000 0] [.box [.slf 0 89, .own 5 1 (c1.map cU)]] (.tup []) [.box [.slf 0 89, .own 5 1 (c1.map cU)]])] 0 (by kernel_rfl) (b_copyCheck (E := 89) (by kernel_rfl) (by kernel_rfl) (by kernel_rfl)) ?_
  obtain ⟨hp1, h⟩ := chk_ok h
  refine T_region [(6, { es := some ((c1 ++ a0).map cU) })] [1, 1000000] [] [(1, .d (.str a0)), (1000000, .box [.slf 0 89, .own 5 1 ((c1 ++ a0).map cU)])] [(6, (c1.map cU).length + (a0.map cU).length ≤ 4294967296 ∧ (c1.map cU) ++ (a0.map cU) = ((c1 ++ a0).map cU))] 3 (by kernel_rfl) (app_ok cU hp1) ?_
  refine T_region [] [4, 5, 1000000] [] [(4, .d (.v (.int .i64 (a0.length : Int)))), (5, .d (.v .nilIface)), (1000000, .box [.slf 0 89, .own 5 1 ((c1 ++ a0).map cU)])] [] 4 (by kernel_rfl) (trivial) ?_
  obtain hs := Option.some.inj h; subst hs
  refine T_ret fun a w hm => T_return (fr' := [(4, .d (.v (.int .i64 (a0.length : Int)))), (5, .d (.v .nilIface)), (1000000, .box [.slf 0 89, .own 5 1 ((c1 ++ a0).map cU)])]) [4, 5] (by kernel_rfl) [.keep [4, 5, 1000000]] (by kernel_rfl) (by kernel_rfl) (by kernel_rfl) (by show _ = _; kernel_rfl) (by exact ⟨⟨by kernel_rfl, by kernel_rfl⟩, trivial⟩) a w hm

theorem strings_Builder_Len_ok {F : Nat} {c0 : List UInt8} {r : Int × (List UInt8)} (h : strings_Builder_Len F c0 = some r) : ACall Tryd.prog 66 [.bp 1000000 0] [.box [.slf 0 89, .own 5 1 (c0.map cU)]] (.d (.v (.int .i64 r.1))) [.box [.slf 0 89, .own 5 1 (r.2.map cU)]] := by
  rw [strings_Builder_Len] at h
  refine ACall.intro (N := 8) Tryd.func66 rfl rfl rfl rfl rfl fun e => ?_
  refine T_region [] [0, 1000000] [] [(0, .bp 1000000 0), (1000000, .box [.slf 0 89, .own 5 1 (c0.map cU)])] [] 1 (by kernel_rfl) (trivial) ?_
  refine T_region [(4, { rw := some (.d (.v (.int .i64 (c0.length : Int)))) })] [2, 1000000] [] [(2, .d (.v (.int .i64 (c0.length : Int)))), (1000000, .box [.slf 0 89, .own 5 1 (c0.map cU)])] [(4, True ∧ AV.d (.v (.int .i64 ((c0.map cU).length : Int))) = .d (.v (.int .i64 (c0.length : Int))))] 1 (by kernel_rfl) (len_ok cU) ?_
  obtain hs := Option.some.inj h; subst hs
  refine T_ret fun a w hm => T_return (fr' := [(2, .d (.v (.int .i64 (c0.length : Int)))), (1000000, .box [.slf 0 89, .own 5 1 (c0.map cU)])]) [2] (by kernel_rfl) [.keep [2, 1000000]] (by kernel_rfl) (by kernel_rfl) (by kernel_rfl) (by show _ = _; kernel_rfl) (by exact ⟨⟨by kernel_rfl, by kernel_rfl⟩, trivial⟩) a w hm

theorem filter_runs_decode_ok {F : Nat} {a0 : S_filter_copies} {a1 : List UInt8} {r : (List UInt8) × Int} (h : filter_runs_decode F a0 a1 = some r) : ACall Tryd.prog 196 [.agg (cS_filter_copies a0), .d (.str a1)] [] (.tup [.d (.str r.1), .d (.v (.int .i64 r.2))]) [] := by
  rw [filter_runs_decode] at h
  refine ACall.intro (N := 67) Tryd.func196 rfl rfl rfl rfl rfl fun e => ?_
  refine T_region [] [1] [] [(1, .d (.str a1))] [] 3 (by kernel_rfl) (trivial) ?_
  refine T_region [(0, { slfs := [(0, 0)] })] [1, 6] [] [(1, .d (.str a1)), (6, .box [.slf 0 89, .own 5 1 ([].map cU)])] [] 1 (by kernel_rfl) (trivial) ?_
  refine T_seqk ?_
  refine T_region [] [1, 6, 7] [] [(1, .d (.str a1)), (6, .box [.slf 0 89, .own 5 1 ([].map cU)]), (7, .d (.v (.int .i64 (0 : Int))))] [] 1 (by kernel_rfl) (trivial) ?_
  refine T_joinEt h (fun (p : (List UInt8)) => [(6, .box [.slf 0 89, .own 5 1 (p.map cU)])]) (fun s h hk1 => ?_) (fun v6 h => ?_)
  · refine T_co [.keep [1, 6, 7]] ((fun (p : (List UInt8) × Int) => [(1, .d (.str a1)), (6, .box [.slf 0 89, .own 5 1 (p.1.map cU)]), (7, .d (.v (.int .i64 p.2)))]) ([], (0 : Int))) (by show _ = _; kernel_rfl) ?_
    refine T_block ?_
    refine T_loopF (ι := (List UInt8) × Int) (fun (p : (List UInt8) × Int) => [(1, .d (.str a1)), (6, .box [.slf 0 89, .own 5 1 (p.1.map cU)]), (7, .d (.v (.int .i64 p.2)))]) (fun n p => filter_runs_decode_L0 F a1 n p.1 p.2 = some s) (fun i hh => by simp [filter_runs_decode_L0] at hh) (fun n p h => ?_) F ([], (0 : Int)) h
    obtain ⟨v1, v2⟩ := p
    have h : filter_runs_decode_L0 F a1 (n + 1) v1 v2 = some s := h
    rw [filter_runs_decode_L0] at h
    refine T_seqk ?_
    refine T_region [] [1, 6, 7, 12] [] [(1, .d (.str a1)), (6, .box [.slf 0 89, .own 5 1 (v1.map cU)]), (7, .d (.v (.int .i64 v2))), (12, .d (.v (.bool (decide (v2 < (a1.length : Int))))))] [] 4 (by kernel_rfl) (trivial) ?_
    refine T_cond (decide (v2 < (a1.length : Int))) (by kernel_rfl) (fun hc => ?_) (fun hc => ?_)
    · have h := cond_tt hc h
      refine T_skip fun a w hm => then_norm (((?_ : T Tryd.prog e 67 _ _ _) a w hm))
      refine T_block ?_
      obtain ⟨hp1, h⟩ := chk_ok h
      refine T_region [] [1, 6, 7, 8] [] [(1, .d (.str a1)), (6, .box [.slf 0 89, .own 5 1 (v1.map cU)]), (7, .d (.v (.int .i64 v2))), (8, .d (.v (.int .i64 (IntKind.i64.wrap ((a1.getD v2.toNat 0).toNat : Int)))))] [(2, 0 ≤ v2 ∧ v2 < a1.length)] 2 (by kernel_rfl) (hp1) ?_
      refine T_region [] [1, 6, 7, 8] [] [(1, .d (.str a1)), (6, .box [.slf 0 89, .own 5 1 (v1.map cU)]), (7, .d (.v (.int .i64 (IntKind.i64.wrap (v2 + (1 : Int)))))), (8, .d (.v (.int .i64 (IntKind.i64.wrap ((a1.getD v2.toNat 0).toNat : Int)))))] [] 3 (by kernel_rfl) (trivial) ?_
      refine T_joinE h (fun (p : (List UInt8) × Int) => [(1, .d (.str a1)), (6, .box [.slf 0 89, .own 5 1 (p.1.map cU)]), (7, .d (.v (.int .i64 p.2)))]) (fun s h hk2 => ?_) (fun s h => ?_)
      · refine T_block ?_
        refine T_region [] [1, 6, 7, 8, 30] [] [(1, .d (.str a1)), (6, .box [.slf 0 89, .own 5 1 (v1.map cU)]), (7, .d (.v (.int .i64 (IntKind.i64.wrap (v2 + (1 : Int)))))), (8, .d (.v (.int .i64 (IntKind.i64.wrap ((a1.getD v2.toNat 0).toNat : Int))))), (30, .d (.v (.bool ((IntKind.i64.wrap ((a1.getD v2.toNat 0).toNat : Int)) == (128 : Int)))))] [] 3 (by kernel_rfl) (trivial) ?_
        refine T_cond ((IntKind.i64.wrap ((a1.getD v2.toNat 0).toNat : Int)) == (128 : Int)) (by kernel_rfl) (fun hc => ?_) (fun hc => ?_)
        · have h := cond_tt hc h
          refine T_region [] [4, 5] [] [(4, .d (.str [])), (5, .d (.v (.int .i64 (5 : Int))))] [] 2 (by kernel_rfl) (trivial) ?_
          obtain hs := Option.some.inj h; subst hs
          have h := callE_esc hk2
          obtain hs := Option.some.inj h; subst hs
          have h := callE_esc hk1
          obtain hs := Option.some.inj h; subst hs
          refine T_ret fun a w hm => inBlock_ret (then_ret (inBlock_ret (then_ret (inBlock_ret (then_ret (then_ret (T_return (fr' := [(4, .d (.str [])), (5, .d (.v (.int .i64 (5 : Int))))]) [4, 5] (by kernel_rfl) [.keep [4, 5]] (by kernel_rfl) (by kernel_rfl) (by kernel_rfl) (by show _ = _; kernel_rfl) (by exact trivial) a w hm)))))))
        · have h := cond_ff hc h
          refine T_joinc h (fun (p : Bool) => [(1, .d (.str a1)), (6, .box [.slf 0 89, .own 5 1 (v1.map cU)]), (7, .d (.v (.int .i64 (IntKind.i64.wrap (v2 + (1 : Int)))))), (8, .d (.v (.int .i64 (IntKind.i64.wrap ((a1.getD v2.toNat 0).toNat : Int))))), (33, .d (.v (.bool p)))]) (fun s h => ?_) (fun v3 h => ?_)
          · obtain ⟨z1, hz1, h⟩ := lett_ok h
            obtain ⟨z2, hz2, h⟩ := lett_ok h
            refine T_region [(5, { rw := some (.d (.v (.int .i64 z1))) }), (10, { rw := some (.d (.v (.bool z2))) })] [1, 6, 7, 8, 33] [] [(1, .d (.str a1)), (6, .box [.slf 0 89, .own 5 1 (v1.map cU)]), (7, .d (.v (.int .i64 (IntKind.i64.wrap (v2 + (1 : Int)))))), (8, .d (.v (.int .i64 (IntKind.i64.wrap ((a1.getD v2.toNat 0).toNat : Int))))), (33, .d (.v (.bool z2)))] [(3, ((((decide ((IntKind.i64.wrap ((a1.getD v2.toNat 0).toNat : Int)) < (128 : Int))) == true) && true) = true → True)), (0, ((((decide ((IntKind.i64.wrap ((a1.getD v2.toNat 0).toNat : Int)) < (128 : Int))) == true) && true) = true → True)), (0, ((((decide ((IntKind.i64.wrap ((a1.getD v2.toNat 0).toNat : Int)) < (128 : Int))) == true) && true) = true → (True) ∧ AV.d (.v (.int .i64 (IntKind.i64.wrap ((IntKind.i64.wrap (v2 + (1 : Int))) + (IntKind.i64.wrap ((a1.getD v2.toNat 0).toNat : Int)))))) = .d (.v (.int .i64 z1)))), (0, ((((decide ((IntKind.i64.wrap ((a1.getD v2.toNat 0).toNat : Int)) < (128 : Int))) == true) && true) = true → True)), (0, ((((decide ((IntKind.i64.wrap ((a1.getD v2.toNat 0).toNat : Int)) < (128 : Int))) == true) && true) = true → True)), (0, ((((decide ((IntKind.i64.wrap ((a1.getD v2.toNat 0).toNat : Int)) < (128 : Int))) == true) && true) = true → True)), (0, ((((decide ((IntKind.i64.wrap ((a1.getD v2.toNat 0).toNat : Int)) < (128 : Int))) == true) && true) = true → True)), (0, (True) ∧ AV.d (.v (.bool (bif (decide ((IntKind.i64.wrap ((a1.getD v2.toNat 0).toNat : Int)) < (128 : Int))) then (decide ((IntKind.i64.wrap (z1 + (1 : Int))) > (a1.length : Int))) else false))) = .d (.v (.bool z2)))] 1 (by kernel_rfl) (⟨(fun hg => trivial), (fun hg => trivial), (fun hg => ⟨trivial, (by subst hz1; rfl)⟩), (fun hg => trivial), (fun hg => trivial), (fun hg => trivial), (fun hg => trivial), ⟨trivial, (by subst hz2; rfl)⟩⟩) ?_
            refine T_cond z2 (by kernel_rfl) (fun hc => ?_) (fun hc => ?_)
            · have h := cond_tt hc h
              obtain hs := Option.some.inj h; subst hs
              refine T_skip fun a w hm => then_norm (hm.co (cs := [.keep [1, 6, 7, 8, 33]]) (by show _ = _; kernel_rfl))
            · have h := cond_ff hc h
              obtain hs := Option.some.inj h; subst hs
              refine T_region_end [] [1, 6, 7, 8, 33] [] [(1, .d (.str a1)), (6, .box [.slf 0 89, .own 5 1 (v1.map cU)]), (7, .d (.v (.int .i64 (IntKind.i64.wrap (v2 + (1 : Int)))))), (8, .d (.v (.int .i64 (IntKind.i64.wrap ((a1.getD v2.toNat 0).toNat : Int))))), (33, .d (.v (.bool ((IntKind.i64.wrap (v2 + (1 : Int))) == (a1.length : Int)))))] [] 5 (by kernel_rfl) (trivial) fun a w hm => then_norm (hm.co (cs := [.keep [1, 6, 7, 8, 33]]) (by show _ = _; kernel_rfl))
          · skip
            refine T_cond v3 (by kernel_rfl) (fun hc => ?_) (fun hc => ?_)
            · have h := cond_tt hc h
              refine T_region [] [4, 5] [] [(4, .d (.str [])), (5, .d (.v (.int .i64 (12 : Int))))] [] 2 (by kernel_rfl) (trivial) ?_
              obtain hs := Option.some.inj h; subst hs
              have h := callE_esc hk2
              obtain hs := Option.some.inj h; subst hs
              have h := callE_esc hk1
              obtain hs := Option.some.inj h; subst hs
              refine T_ret fun a w hm => inBlock_ret (then_ret (inBlock_ret (then_ret (inBlock_ret (then_ret (then_ret (T_return (fr' := [(4, .d (.str [])), (5, .d (.v (.int .i64 (12 : Int))))]) [4, 5] (by kernel_rfl) [.keep [4, 5]] (by kernel_rfl) (by kernel_rfl) (by kernel_rfl) (by show _ = _; kernel_rfl) (by exact trivial) a w hm)))))))
            · have h := cond_ff hc h
              refine T_region [] [1, 6, 7, 8, 49] [] [(1, .d (.str a1)), (6, .box [.slf 0 89, .own 5 1 (v1.map cU)]), (7, .d (.v (.int .i64 (IntKind.i64.wrap (v2 + (1 : Int)))))), (8, .d (.v (.int .i64 (IntKind.i64.wrap ((a1.getD v2.toNat 0).toNat : Int))))), (49, .d (.v (.bool (decide ((IntKind.i64.wrap ((a1.getD v2.toNat 0).toNat : Int)) < (128 : Int))))))] [] 3 (by kernel_rfl) (trivial) ?_
              refine T_cond (decide ((IntKind.i64.wrap ((a1.getD v2.toNat 0).toNat : Int)) < (128 : Int))) (by kernel_rfl) (fun hc => ?_) (fun hc => ?_)
              · have h := cond_tt hc h
                obtain ⟨z3, hz3, h⟩ := lett_ok h
                obtain ⟨hp2, h⟩ := chk_ok h
                obtain ⟨z4, hz4, h⟩ := lett_ok h
                obtain ⟨y1, hy1, h⟩ := call_ok h
                refine T_region [(4, { rw := some (.d (.v (.int .i64 z3))) }), (6, { rw := some (.d (.str z4)) }), (7, { res := .tup [.d (.v (.int .i64 y1.1)), .d (.v .nilIface)], vout := [.box [.slf 0 89, .own 5 1 (y1.2.2.map cU)]], xs := [6] })] [1, 6, 7, 8] [] [(1, .d (.str a1)), (6, .box [.slf 0 89, .own 5 1 (y1.2.2.map cU)]), (7, .d (.v (.int .i64 (IntKind.i64.wrap (v2 + (1 : Int)))))), (8, .d (.v (.int .i64 (IntKind.i64.wrap ((a1.getD v2.toNat 0).toNat : Int)))))] [(4, (True) ∧ AV.d (.v (.int .i64 (IntKind.i64.wrap ((IntKind.i64.wrap (v2 + (1 : Int))) + (IntKind.i64.wrap ((a1.getD v2.toNat 0).toNat : Int)))))) = .d (.v (.int .i64 z3))), (1, (0 ≤ (IntKind.i64.wrap (v2 + (1 : Int))) ∧ (IntKind.i64.wrap (v2 + (1 : Int))) ≤ (IntKind.i64.wrap (z3 + (1 : Int))) ∧ (IntKind.i64.wrap (z3 + (1 : Int))) ≤ (a1.length : Int)) ∧ AV.d (.str ((a1.drop (IntKind.i64.wrap (v2 + (1 : Int))).toNat).take ((IntKind.i64.wrap (z3 + (1 : Int))).toNat - (IntKind.i64.wrap (v2 + (1 : Int))).toNat))) = .d (.str z4)), (0, ACall Tryd.prog 90 [.bp 1000000 0, .d (.str z4)] [.box [.slf 0 89, .own 5 1 (v1.map cU)]] (.tup [.d (.v (.int .i64 y1.1)), .d (.v .nilIface)]) [.box [.slf 0 89, .own 5 1 (y1.2.2.map cU)]])] 0 (by kernel_rfl) (⟨⟨trivial, (by subst hz3; rfl)⟩, ⟨hp2, (by subst hz4; rfl)⟩, strings_Builder_WriteString_ok hy1⟩) ?_
                obtain ⟨z5, hz5, h⟩ := lett_ok h
                obtain hs := Option.some.inj h; subst hs
                refine T_region_end [(3, { rw := some (.d (.v (.int .i64 z5))) })] [1, 6, 7] [] [(1, .d (.str a1)), (6, .box [.slf 0 89, .own 5 1 (y1.2.2.map cU)]), (7, .d (.v (.int .i64 z5)))] [(3, (True) ∧ AV.d (.v (.int .i64 (IntKind.i64.wrap ((IntKind.i64.wrap (v2 + (1 : Int))) + (IntKind.i64.wrap ((IntKind.i64.wrap ((a1.getD v2.toNat 0).toNat : Int)) + (1 : Int))))))) = .d (.v (.int .i64 z5)))] 1 (by kernel_rfl) (⟨trivial, (by subst hz5; rfl)⟩) fun a w hm => inBlock_norm (then_norm (⟨_, rfl, hm.co (cs := [.keep [1, 6, 7]]) (by show _ = _; kernel_rfl)⟩))
              · have h := cond_ff hc h
                obtain ⟨hp3, h⟩ := chk_ok h
                obtain ⟨z6, hz6, h⟩ := lett_ok h
                obtain ⟨hp4, h⟩ := chk_ok h
                obtain ⟨y2, hy2, h⟩ := call_ok h
                refine T_region [(4, { rw := some (.d (.str z6)) }), (7, { res := .d (.str (Lib.repeatL z6 (IntKind.i64.wrap ((257 : Int) - (IntKind.i64.wrap ((a1.getD v2.toNat 0).toNat : Int)))).toNat)) }), (8, { res := .tup [.d (.v (.int .i64 y2.1)), .d (.v .nilIface)], vout := [.box [.slf 0 89, .own 5 1 (y2.2.2.map cU)]], xs := [6] })] [1, 6, 7] [] [(1, .d (.str a1)), (6, .box [.slf 0 89, .own 5 1 (y2.2.2.map cU)]), (7, .d (.v (.int .i64 (IntKind.i64.wrap (v2 + (1 : Int))))))] [(4, (0 ≤ (IntKind.i64.wrap (v2 + (1 : Int))) ∧ (IntKind.i64.wrap (v2 + (1 : Int))) ≤ (IntKind.i64.wrap ((IntKind.i64.wrap (v2 + (1 : Int))) + (1 : Int))) ∧ (IntKind.i64.wrap ((IntKind.i64.wrap (v2 + (1 : Int))) + (1 : Int))) ≤ (a1.length : Int)) ∧ AV.d (.str ((a1.drop (IntKind.i64.wrap (v2 + (1 : Int))).toNat).take ((IntKind.i64.wrap ((IntKind.i64.wrap (v2 + (1 : Int))) + (1 : Int))).toNat - (IntKind.i64.wrap (v2 + (1 : Int))).toNat))) = .d (.str z6)), (2, ACall Tryd.prog 69 [.d (.str z6), .d (.v (.int .i64 (IntKind.i64.wrap ((257 : Int) - (IntKind.i64.wrap ((a1.getD v2.toNat 0).toNat : Int))))))] [] (.d (.str (Lib.repeatL z6 (IntKind.i64.wrap ((257 : Int) - (IntKind.i64.wrap ((a1.getD v2.toNat 0).toNat : Int)))).toNat))) []), (0, ACall Tryd.prog 90 [.bp 1000000 0, .d (.str (Lib.repeatL z6 (IntKind.i64.wrap ((257 : Int) - (IntKind.i64.wrap ((a1.getD v2.toNat 0).toNat : Int)))).toNat))] [.box [.slf 0 89, .own 5 1 (v1.map cU)]] (.tup [.d (.v (.int .i64 y2.1)), .d (.v .nilIface)]) [.box [.slf 0 89, .own 5 1 (y2.2.2.map cU)]])] 0 (by kernel_rfl) (⟨⟨hp3, (by subst hz6; rfl)⟩, b_Repeat hp4, strings_Builder_WriteString_ok hy2⟩) ?_
                obtain hs := Option.some.inj h; subst hs
                refine T_region_end [] [1, 6, 7] [] [(1, .d (.str a1)), (6, .box [.slf 0 89, .own 5 1 (y2.2.2.map cU)]), (7, .d (.v (.int .i64 (IntKind.i64.wrap ((IntKind.i64.wrap (v2 + (1 : Int))) + (1 : Int))))))] [] 3 (by kernel_rfl) (trivial) fun a w hm => inBlock_norm (then_norm (⟨_, rfl, hm.co (cs := [.keep [1, 6, 7]]) (by show _ = _; kernel_rfl)⟩))
      · obtain ⟨v4, v5⟩ := s
        try dsimp only at h
        obtain ⟨y3, hy3, h⟩ := call_ok h
        refine T_region [(0, { res := .d (.v (.int .i64 y3.1)), vout := [.box [.slf 0 89, .own 5 1 (y3.2.map cU)]], xs := [6] })] [1, 6, 7, 65] [] [(1, .d (.str a1)), (6, .box [.slf 0 89, .own 5 1 (y3.2.map cU)]), (7, .d (.v (.int .i64 v5))), (65, .d (.v (.bool (decide (y3.1 > (65536 : Int))))))] [(0, ACall Tryd.prog 66 [.bp 1000000 0] [.box [.slf 0 89, .own 5 1 (v4.map cU)]] (.d (.v (.int .i64 y3.1))) [.box [.slf 0 89, .own 5 1 (y3.2.map cU)]])] 1 (by kernel_rfl) (strings_Builder_Len_ok hy3) ?_
        refine T_cond (decide (y3.1 > (65536 : Int))) (by kernel_rfl) (fun hc => ?_) (fun hc => ?_)
        · have h := cond_tt hc h
          refine T_region [] [4, 5] [] [(4, .d (.str [])), (5, .d (.v (.int .i64 (2 : Int))))] [] 2 (by kernel_rfl) (trivial) ?_
          obtain hs := Option.some.inj h; subst hs
          have h := callE_esc hk1
          obtain hs := Option.some.inj h; subst hs
          refine T_ret fun a w hm => inBlock_ret (then_ret (inBlock_ret (then_ret (then_ret (T_return (fr' := [(4, .d (.str [])), (5, .d (.v (.int .i64 (2 : Int))))]) [4, 5] (by kernel_rfl) [.keep [4, 5]] (by kernel_rfl) (by kernel_rfl) (by kernel_rfl) (by show _ = _; kernel_rfl) (by exact trivial) a w hm)))))
        · have h := cond_ff hc h
          refine T_skip fun a w hm => inBlock_norm (then_norm (⟨(y3.2, v5), h, hm.co (cs := [.keep [1, 6, 7]]) (by show _ = _; kernel_rfl)⟩))
    · have h := cond_ff hc h
      obtain hs := Option.some.inj h; subst hs
      refine T_exit fun a w hm => then_exit (then_exit (inBlock_exit (then_norm (⟨_, rfl, hm.co (cs := [.keep [6]]) (by show _ = _; kernel_rfl)⟩))))
  · skip
    refine fun a w hm => then_norm (((?_ : T Tryd.prog e 67 _ _ _) a w hm))
    obtain ⟨hp5, h⟩ := chk_ok h
    refine T_region [(0, { xs := [6], vout := [.box [.slf 0 89, .junk]], res := .d (.str v6) })] [4, 5] [] [(4, .d (.str v6)), (5, .d (.v (.int .i64 (0 : Int))))] [(0, ACall Tryd.prog 67 [.bp 1000000 0] [.box [.slf 0 89, .own 5 1 (v6.map cU)]] (.d (.str v6)) [.box [.slf 0 89, .junk]])] 2 (by kernel_rfl) (b_String (l := v6) hp5 (by kernel_rfl) (by kernel_rfl)) ?_
    obtain hs := Option.some.inj h; subst hs
    refine T_ret fun a w hm => T_return (fr' := [(4, .d (.str v6)), (5, .d (.v (.int .i64 (0 : Int))))]) [4, 5] (by kernel_rfl) [.keep [4, 5]] (by kernel_rfl) (by kernel_rfl) (by kernel_rfl) (by show _ = _; kernel_rfl) (by exact trivial) a w hm

theorem filter_rows_decode_ok {F : Nat} {a0 : S_filter_rows} {a1 : List UInt8} {r : (List UInt8) × Int} (h : filter_rows_decode F a0 a1 = some r) : ACall Tryd.prog 199 [.agg (cS_filter_rows a0), .d (.str a1)] [] (.tup [.d (.str r.1), .d (.v (.int .i64 r.2))]) [] := by
  rw [filter_rows_decode] at h
  refine ACall.intro (N := 33) Tryd.func199 rfl rfl rfl rfl rfl fun e => ?_
  refine T_region [] [1, 2] [] [(1, .d (.str a1)), (2, .box [.d (.v (.int .i64 a0.f0))])] [] 3 (by kernel_rfl) (trivial) ?_
  refine T_region [(1, { es := some (a1.map cU) })] [2, 6] [] [(2, .box [.d (.v (.int .i64 a0.f0))]), (6, .own 5 1 (a1.map cU))] [(1, byteCells a1 = (a1.map cU))] 1 (by kernel_rfl) (rfl) ?_
  refine T_seqk ?_
  refine T_region [] [2, 6, 7] [] [(2, .box [.d (.v (.int .i64 a0.f0))]), (6, .own 5 1 (a1.map cU)), (7, .d (.v (.int .i64 a0.f0)))] [] 3 (by kernel_rfl) (trivial) ?_
  refine T_joinct h (fun (p : (List UInt8)) => [(6, .own 5 1 (p.map cU))]) (fun s h => ?_) (fun v3 h => ?_)
  · refine T_co [.keep [2, 6, 7]] ((fun (p : (List UInt8) × Int) => [(2, .box [.d (.v (.int .i64 a0.f0))]), (6, .own 5 1 (p.1.map cU)), (7, .d (.v (.int .i64 p.2)))]) (a1, a0.f0)) (by show _ = _; kernel_rfl) ?_
    refine T_block ?_
    refine T_loopF (ι := (List UInt8) × Int) (fun (p : (List UInt8) × Int) => [(2, .box [.d (.v (.int .i64 a0.f0))]), (6, .own 5 1 (p.1.map cU)), (7, .d (.v (.int .i64 p.2)))]) (fun n p => filter_rows_decode_L0 F a0 n p.1 p.2 = some s) (fun i hh => by simp [filter_rows_decode_L0] at hh) (fun n p h => ?_) F (a1, a0.f0) h
    obtain ⟨v1, v2⟩ := p
    have h : filter_rows_decode_L0 F a0 (n + 1) v1 v2 = some s := h
    rw [filter_rows_decode_L0] at h
    refine T_seqk ?_
    refine T_region [(2, { rw := some (.d (.v (.int .i64 (v1.length : Int)))) })] [2, 6, 7, 15] [] [(2, .box [.d (.v (.int .i64 a0.f0))]), (6, .own 5 1 (v1.map cU)), (7, .d (.v (.int .i64 v2))), (15, .d (.v (.bool (decide (v2 < (v1.length : Int))))))] [(2, True ∧ AV.d (.v (.int .i64 ((v1.map cU).length : Int))) = .d (.v (.int .i64 (v1.length : Int))))] 1 (by kernel_rfl) (len_ok cU) ?_
    refine T_cond (decide (v2 < (v1.length : Int))) (by kernel_rfl) (fun hc => ?_) (fun hc => ?_)
    · have h := cond_tt hc h
      refine T_skip fun a w hm => then_norm (((?_ : T Tryd.prog e 33 _ _ _) a w hm))
      refine T_seqk ?_
      refine T_block ?_
      obtain ⟨hp1, h⟩ := chk_ok h
      obtain ⟨hp2, h⟩ := chk_ok h
      obtain ⟨z1, hz1, h⟩ := lett_ok h
      obtain ⟨hp3, h⟩ := chk_ok h
      obtain ⟨hp4, h⟩ := chk_ok h
      refine T_drawS_end mixed 13 [(3, { cs := cU (v1.getD v2.toNat 0) }), (10, { cs := cU (v1.getD (IntKind.i64.wrap (v2 - a0.f0)).toNat 0) }), (11, { rw := some (.d (.v (.int .u8 z1))) }), (13, { cs := cU (v1.getD v2.toNat 0), es := some ((v1.set v2.toNat (UInt8.ofNat z1.toNat)).map cU) })] [2, 6, 7] [] [(2, .box [.d (.v (.int .i64 a0.f0))]), (6, .own 5 1 ((v1.set v2.toNat (UInt8.ofNat z1.toNat)).map cU)), (7, .d (.v (.int .i64 v2)))] [(2, 0 ≤ v2 ∧ v2 < (v1.map cU).length), (0, (v1.map cU)[v2.toNat]? = some (cU (v1.getD v2.toNat 0))), (5, 0 ≤ (IntKind.i64.wrap (v2 - a0.f0)) ∧ (IntKind.i64.wrap (v2 - a0.f0)) < (v1.map cU).length), (0, (v1.map cU)[(IntKind.i64.wrap (v2 - a0.f0)).toNat]? = some (cU (v1.getD (IntKind.i64.wrap (v2 - a0.f0)).toNat 0))), (0, (True) ∧ AV.d (.v (.int .u8 (IntKind.u8.wrap (((v1.getD v2.toNat 0).toNat : Int) + ((v1.getD (IntKind.i64.wrap (v2 - a0.f0)).toNat 0).toNat : Int))))) = .d (.v (.int .u8 z1))), (0, 0 ≤ v2 ∧ v2 < (v1.map cU).length), (0, (v1.map cU)[v2.toNat]? = some (cU (v1.getD v2.toNat 0)) ∧ (v1.map cU).set v2.toNat ([Dat.v (.int .u8 z1)]) = ((v1.set v2.toNat (UInt8.ofNat z1.toNat)).map cU))] 0 (by kernel_rfl) (⟨own_idx cU hp1, (idx_ok (d := 0) cU hp1).2, own_idx cU hp2, (idx_ok (d := 0) cU hp2).2, ⟨trivial, (by subst hz1; rfl)⟩, own_idx cU hp3, ⟨(idx_ok (d := 0) cU hp3).2, set_ok cU (cU_ofInt hp4)⟩⟩) fun a w hm => inBlock_norm (then_norm (((?_ : T Tryd.prog e 33 _ _ _) a w hm)))
      refine T_region_end [] [2, 6, 7] [] [(2, .box [.d (.v (.int .i64 a0.f0))]), (6, .own 5 1 ((v1.set v2.toNat (UInt8.ofNat z1.toNat)).map cU)), (7, .d (.v (.int .i64 (IntKind.i64.wrap (v2 + (1 : Int))))))] [] 3 (by kernel_rfl) (trivial) fun a w hm => then_norm (⟨((v1.set v2.toNat (UInt8.ofNat z1.toNat)), IntKind.i64.wrap (v2 + (1 : Int))), h, hm.co (cs := [.keep [2, 6, 7]]) (by show _ = _; kernel_rfl)⟩)
    · have h := cond_ff hc h
      obtain hs := Option.some.inj h; subst hs
      refine T_exit fun a w hm => then_exit (then_exit (inBlock_exit (then_norm (hm.co (cs := [.keep [6]]) (by show _ = _; kernel_rfl)))))
  · skip
    refine fun a w hm => then_norm (((?_ : T Tryd.prog e 33 _ _ _) a w hm))
    refine T_region [(1, { cs := [.str v3] })] [4, 5] [] [(4, .d (.str v3)), (5, .d (.v (.int .i64 (0 : Int))))] [(1, (v3.map cU) = byteCells v3)] 2 (by kernel_rfl) (rfl) ?_
    obtain hs := Option.some.inj h; subst hs
    refine T_ret fun a w hm => T_return (fr' := [(4, .d (.str v3)), (5, .d (.v (.int .i64 (0 : Int))))]) [4, 5] (by kernel_rfl) [.keep [4, 5]] (by kernel_rfl) (by kernel_rfl) (by kernel_rfl) (by show _ = _; kernel_rfl) (by exact trivial) a w hm

theorem filter_copies_decode_ok {F : Nat} {a0 : S_filter_copies} {a1 : List UInt8} {r : (List UInt8) × Int} (h : filter_copies_decode F a0 a1 = some r) : ACall Tryd.prog 201 [.agg (cS_filter_copies a0), .d (.str a1)] [] (.tup [.d (.str r.1), .d (.v (.int .i64 r.2))]) [] := by
  rw [filter_copies_decode] at h
  refine ACall.intro (N := 88) Tryd.func201 rfl rfl rfl rfl rfl fun e => ?_
  refine T_region [] [1] [] [(1, .d (.str a1))] [] 3 (by kernel_rfl) (trivial) ?_
  refine T_region [] [1, 6] [] [(1, .d (.str a1)), (6, .own 5 1 ([].map cU))] [] 1 (by kernel_rfl) (trivial) ?_
  refine T_seqk ?_
  refine T_region [] [1, 6, 7] [] [(1, .d (.str a1)), (6, .own 5 1 ([].map cU)), (7, .d (.v (.int .i64 (0 : Int))))] [] 1 (by kernel_rfl) (trivial) ?_
  refine T_joinEt h (fun (p : (List UInt8)) => [(6, .own 5 1 (p.map cU))]) (fun s h hk1 => ?_) (fun v8 h => ?_)
  · refine T_co [.keep [1, 6, 7]] ((fun (p : (List UInt8) × Int) => [(1, .d (.str a1)), (6, .own 5 1 (p.1.map cU)), (7, .d (.v (.int .i64 p.2)))]) ([], (0 : Int))) (by show _ = _; kernel_rfl) ?_
    refine T_block ?_
    refine T_loopF (ι := (List UInt8) × Int) (fun (p : (List UInt8) × Int) => [(1, .d (.str a1)), (6, .own 5 1 (p.1.map cU)), (7, .d (.v (.int .i64 p.2)))]) (fun n p => filter_copies_decode_L0 F a1 n p.1 p.2 = some s) (fun i hh => by simp [filter_copies_decode_L0] at hh) (fun n p h => ?_) F ([], (0 : Int)) h
    obtain ⟨v4, v1⟩ := p
    have h : filter_copies_decode_L0 F a1 (n + 1) v4 v1 = some s := h
    rw [filter_copies_decode_L0] at h
    refine T_seqk ?_
    refine T_region [] [1, 6, 7, 13] [] [(1, .d (.str a1)), (6, .own 5 1 (v4.map cU)), (7, .d (.v (.int .i64 v1))), (13, .d (.v (.bool (decide (v1 < (a1.length : Int))))))] [] 4 (by kernel_rfl) (trivial) ?_
    refine T_cond (decide (v1 < (a1.length : Int))) (by kernel_rfl) (fun hc => ?_) (fun hc => ?_)
    · have h := cond_tt hc h
      refine T_skip fun a w hm => then_norm (((?_ : T Tryd.prog e 88 _ _ _) a w hm))
      refine T_block ?_
      obtain ⟨hp1, h⟩ := chk_ok h
      refine T_region [] [1, 6, 7, 8] [] [(1, .d (.str a1)), (6, .own 5 1 (v4.map cU)), (7, .d (.v (.int .i64 v1))), (8, .d (.v (.int .i64 (IntKind.i64.wrap ((a1.getD v1.toNat 0).toNat : Int)))))] [(2, 0 ≤ v1 ∧ v1 < a1.length)] 2 (by kernel_rfl) (hp1) ?_
      refine T_region [] [1, 6, 7, 8] [] [(1, .d (.str a1)), (6, .own 5 1 (v4.map cU)), (7, .d (.v (.int .i64 (IntKind.i64.wrap (v1 + (1 : Int)))))), (8, .d (.v (.int .i64 (IntKind.i64.wrap ((a1.getD v1.toNat 0).toNat : Int)))))] [] 3 (by kernel_rfl) (trivial) ?_
      refine T_joinE h (fun (p : (List UInt8) × Int) => [(1, .d (.str a1)), (6, .own 5 1 (p.1.map cU)), (7, .d (.v (.int .i64 p.2)))]) (fun s h hk2 => ?_) (fun s h => ?_)
      · refine T_region [] [1, 6, 7, 8, 21] [] [(1, .d (.str a1)), (6, .own 5 1 (v4.map cU)), (7, .d (.v (.int .i64 (IntKind.i64.wrap (v1 + (1 : Int)))))), (8, .d (.v (.int .i64 (IntKind.i64.wrap ((a1.getD v1.toNat 0).toNat : Int))))), (21, .d (.v (.bool (decide ((IntKind.i64.wrap ((a1.getD v1.toNat 0).toNat : Int)) < (128 : Int))))))] [] 2 (by kernel_rfl) (trivial) ?_
        refine T_cond (decide ((IntKind.i64.wrap ((a1.getD v1.toNat 0).toNat : Int)) < (128 : Int))) (by kernel_rfl) (fun hc => ?_) (fun hc => ?_)
        · have h := cond_tt hc h
          refine T_seqk ?_
          obtain ⟨z3, hz1, h⟩ := lett_ok h
          refine T_region [(2, { rw := some (.d (.v (.int .i64 z3))) })] [1, 6, 7, 8, 28] [] [(1, .d (.str a1)), (6, .own 5 1 (v4.map cU)), (7, .d (.v (.int .i64 (IntKind.i64.wrap (v1 + (1 : Int)))))), (8, .d (.v (.int .i64 (IntKind.i64.wrap ((a1.getD v1.toNat 0).toNat : Int))))), (28, .d (.v (.bool (decide ((IntKind.i64.wrap (z3 + (1 : Int))) > (a1.length : Int))))))] [(2, (True) ∧ AV.d (.v (.int .i64 (IntKind.i64.wrap ((IntKind.i64.wrap (v1 + (1 : Int))) + (IntKind.i64.wrap ((a1.getD v1.toNat 0).toNat : Int)))))) = .d (.v (.int .i64 z3)))] 4 (by kernel_rfl) (⟨trivial, (by subst hz1; rfl)⟩) ?_
          refine T_cond (decide ((IntKind.i64.wrap (z3 + (1 : Int))) > (a1.length : Int))) (by kernel_rfl) (fun hc => ?_) (fun hc => ?_)
          · have h := cond_tt hc h
            refine T_region [] [4, 5] [] [(4, .d (.str [])), (5, .d (.v (.int .i64 (12 : Int))))] [] 2 (by kernel_rfl) (trivial) ?_
            obtain hs := Option.some.inj h; subst hs
            have h := callE_esc hk2
            obtain hs := Option.some.inj h; subst hs
            have h := callE_esc hk1
            obtain hs := Option.some.inj h; subst hs
            refine T_ret fun a w hm => then_ret (then_ret (inBlock_ret (then_ret (inBlock_ret (then_ret (then_ret (T_return (fr' := [(4, .d (.str [])), (5, .d (.v (.int .i64 (12 : Int))))]) [4, 5] (by kernel_rfl) [.keep [4, 5]] (by kernel_rfl) (by kernel_rfl) (by kernel_rfl) (by show _ = _; kernel_rfl) (by exact trivial) a w hm)))))))
          · have h := cond_ff hc h
            refine T_skip fun a w hm => then_norm (((?_ : T Tryd.prog e 88 _ _ _) a w hm))
            obtain ⟨z4, hz2, h⟩ := lett_ok h
            obtain ⟨hp2, h⟩ := chk_ok h
            obtain ⟨z5, hz3, h⟩ := lett_ok h
            obtain ⟨hp3, h⟩ := chk_ok h
            refine T_region [(5, { rw := some (.d (.v (.int .i64 z4))) }), (7, { rw := some (.d (.str z5)) }), (8, { es := some ((v4 ++ z5).map cU) })] [1, 6, 7, 8] [] [(1, .d (.str a1)), (6, .own 5 1 ((v4 ++ z5).map cU)), (7, .d (.v (.int .i64 (IntKind.i64.wrap (v1 + (1 : Int)))))), (8, .d (.v (.int .i64 (IntKind.i64.wrap ((a1.getD v1.toNat 0).toNat : Int)))))] [(5, (True) ∧ AV.d (.v (.int .i64 (IntKind.i64.wrap ((IntKind.i64.wrap (v1 + (1 : Int))) + (IntKind.i64.wrap ((a1.getD v1.toNat 0).toNat : Int)))))) = .d (.v (.int .i64 z4))), (1, (0 ≤ (IntKind.i64.wrap (v1 + (1 : Int))) ∧ (IntKind.i64.wrap (v1 + (1 : Int))) ≤ (IntKind.i64.wrap (z4 + (1 : Int))) ∧ (IntKind.i64.wrap (z4 + (1 : Int))) ≤ (a1.length : Int)) ∧ AV.d (.str ((a1.drop (IntKind.i64.wrap (v1 + (1 : Int))).toNat).take ((IntKind.i64.wrap (z4 + (1 : Int))).toNat - (IntKind.i64.wrap (v1 + (1 : Int))).toNat))) = .d (.str z5)), (0, (v4.map cU).length + (z5.map cU).length ≤ 4294967296 ∧ (v4.map cU) ++ (z5.map cU) = ((v4 ++ z5).map cU))] 1 (by kernel_rfl) (⟨⟨trivial, (by subst hz2; rfl)⟩, ⟨hp2, (by subst hz3; rfl)⟩, app_ok cU hp3⟩) ?_
            obtain ⟨z6, hz4, h⟩ := lett_ok h
            obtain hs := Option.some.inj h; subst hs
            refine T_region_end [(3, { rw := some (.d (.v (.int .i64 z6))) })] [1, 6, 7] [] [(1, .d (.str a1)), (6, .own 5 1 ((v4 ++ z5).map cU)), (7, .d (.v (.int .i64 z6)))] [(3, (True) ∧ AV.d (.v (.int .i64 (IntKind.i64.wrap ((IntKind.i64.wrap (v1 + (1 : Int))) + (IntKind.i64.wrap ((IntKind.i64.wrap ((a1.getD v1.toNat 0).toNat : Int)) + (1 : Int))))))) = .d (.v (.int .i64 z6)))] 1 (by kernel_rfl) (⟨trivial, (by subst hz4; rfl)⟩) fun a w hm => then_norm (⟨_, rfl, hm.co (cs := [.keep [1, 6, 7]]) (by show _ = _; kernel_rfl)⟩)
        · have h := cond_ff hc h
          refine T_seqk ?_
          obtain ⟨z7, hz5, h⟩ := lett_ok h
          refine T_region [(4, { rw := some (.d (.v (.bool z7))) })] [1, 6, 7, 8, 46] [] [(1, .d (.str a1)), (6, .own 5 1 (v4.map cU)), (7, .d (.v (.int .i64 (IntKind.i64.wrap (v1 + (1 : Int)))))), (8, .d (.v (.int .i64 (IntKind.i64.wrap ((a1.getD v1.toNat 0).toNat : Int))))), (46, .d (.v (.bool z7)))] [(4, (True) ∧ AV.d (.v (.bool (decide ((IntKind.i64.wrap ((IntKind.i64.wrap (v1 + (1 : Int))) + (2 : Int))) > (a1.length : Int))))) = .d (.v (.bool z7)))] 0 (by kernel_rfl) (⟨trivial, (by subst hz5; rfl)⟩) ?_
          refine T_cond z7 (by kernel_rfl) (fun hc => ?_) (fun hc => ?_)
          · have h := cond_tt hc h
            refine T_region [] [4, 5] [] [(4, .d (.str [])), (5, .d (.v (.int .i64 (12 : Int))))] [] 2 (by kernel_rfl) (trivial) ?_
            obtain hs := Option.some.inj h; subst hs
            have h := callE_esc hk2
            obtain hs := Option.some.inj h; subst hs
            have h := callE_esc hk1
            obtain hs := Option.some.inj h; subst hs
            refine T_ret fun a w hm => then_ret (then_ret (inBlock_ret (then_ret (inBlock_ret (then_ret (then_ret (T_return (fr' := [(4, .d (.str [])), (5, .d (.v (.int .i64 (12 : Int))))]) [4, 5] (by kernel_rfl) [.keep [4, 5]] (by kernel_rfl) (by kernel_rfl) (by kernel_rfl) (by show _ = _; kernel_rfl) (by exact trivial) a w hm)))))))
          · have h := cond_ff hc h
            refine T_skip fun a w hm => then_norm (((?_ : T Tryd.prog e 88 _ _ _) a w hm))
            obtain ⟨hp4, h⟩ := chk_ok h
            obtain ⟨z8, hz6, h⟩ := lett_ok h
            obtain ⟨hp5, h⟩ := chk_ok h
            obtain ⟨z9, hz7, h⟩ := lett_ok h
            obtain ⟨z1, hz8, h⟩ := lett_ok h
            refine T_draw mixed [(4, { rw := some (.d (.v (.int .i64 z8))) }), (8, { rw := some (.d (.v (.int .u8 z9))) }), (10, { rw := some (.d (.v (.int .i64 z1))) })] [1, 6, 7, 8, 9] [] [(1, .d (.str a1)), (6, .own 5 1 (v4.map cU)), (7, .d (.v (.int .i64 (IntKind.i64.wrap (v1 + (1 : Int)))))), (8, .d (.v (.int .i64 (IntKind.i64.wrap ((a1.getD v1.toNat 0).toNat : Int))))), (9, .d (.v (.int .i64 z1)))] [(2, 0 ≤ (IntKind.i64.wrap (v1 + (1 : Int))) ∧ (IntKind.i64.wrap (v1 + (1 : Int))) < a1.length), (1, (0 ≤ (8 : Int)) ∧ AV.d (.v (.int .i64 (IntKind.i64.wrap ((IntKind.i64.wrap ((a1.getD (IntKind.i64.wrap (v1 + (1 : Int))).toNat 0).toNat : Int)) * 2 ^ (min (8 : Int).toNat IntKind.i64.bits))))) = .d (.v (.int .i64 z8))), (3, (0 ≤ (IntKind.i64.wrap ((IntKind.i64.wrap (v1 + (1 : Int))) + (1 : Int))) ∧ (IntKind.i64.wrap ((IntKind.i64.wrap (v1 + (1 : Int))) + (1 : Int))) < a1.length) ∧ AV.d (.v (.int .u8 ((a1.getD (IntKind.i64.wrap ((IntKind.i64.wrap (v1 + (1 : Int))) + (1 : Int))).toNat 0).toNat : Int))) = .d (.v (.int .u8 z9))), (1, (True) ∧ AV.d (.v (.int .i64 (IntKind.i64.wrap ((BitVec.ofInt IntKind.i64.bits z8 ||| BitVec.ofInt IntKind.i64.bits (IntKind.i64.wrap z9)).toNat : Int)))) = .d (.v (.int .i64 z1)))] 1 (by kernel_rfl) (⟨hp4, ⟨(show 0 ≤ (8 : Int) by decide), (by subst hz6; rfl)⟩, ⟨hp5, (by subst hz7; rfl)⟩, ⟨trivial, (by subst hz8; rfl)⟩⟩) ?_
            refine T_region [] [1, 6, 7, 8, 9] [] [(1, .d (.str a1)), (6, .own 5 1 (v4.map cU)), (7, .d (.v (.int .i64 (IntKind.i64.wrap ((IntKind.i64.wrap (v1 + (1 : Int))) + (2 : Int)))))), (8, .d (.v (.int .i64 (IntKind.i64.wrap ((a1.getD v1.toNat 0).toNat : Int))))), (9, .d (.v (.int .i64 z1)))] [] 3 (by kernel_rfl) (trivial) ?_
            refine T_seqk ?_
            refine T_region [(5, { rw := some (.d (.v (.int .i64 (v4.length : Int)))) })] [1, 6, 7, 8, 9, 67] [] [(1, .d (.str a1)), (6, .own 5 1 (v4.map cU)), (7, .d (.v (.int .i64 (IntKind.i64.wrap ((IntKind.i64.wrap (v1 + (1 : Int))) + (2 : Int)))))), (8, .d (.v (.int .i64 (IntKind.i64.wrap ((a1.getD v1.toNat 0).toNat : Int))))), (9, .d (.v (.int .i64 z1))), (67, .d (.v (.bool (bif (z1 == (0 : Int)) then true else (decide (z1 > (v4.length : Int)))))))] [(3, ((((z1 == (0 : Int)) == false) && true) = true → True)), (0, ((((z1 == (0 : Int)) == false) && true) = true → True)), (0, ((((z1 == (0 : Int)) == false) && true) = true → True ∧ AV.d (.v (.int .i64 ((v4.map cU).length : Int))) = .d (.v (.int .i64 (v4.length : Int))))), (0, ((((z1 == (0 : Int)) == false) && true) = true → True))] 1 (by kernel_rfl) (⟨(fun hg => trivial), (fun hg => trivial), (fun hg => len_ok cU), (fun hg => trivial)⟩) ?_
            refine T_cond (bif (z1 == (0 : Int)) then true else (decide (z1 > (v4.length : Int)))) (by kernel_rfl) (fun hc => ?_) (fun hc => ?_)
            · have h := cond_tt hc h
              refine T_region [] [4, 5] [] [(4, .d (.str [])), (5, .d (.v (.int .i64 (3 : Int))))] [] 2 (by kernel_rfl) (trivial) ?_
              obtain hs := Option.some.inj h; subst hs
              have h := callE_esc hk2
              obtain hs := Option.some.inj h; subst hs
              have h := callE_esc hk1
              obtain hs := Option.some.inj h; subst hs
              refine T_ret fun a w hm => then_ret (then_ret (inBlock_ret (then_ret (inBlock_ret (then_ret (then_ret (T_return (fr' := [(4, .d (.str [])), (5, .d (.v (.int .i64 (3 : Int))))]) [4, 5] (by kernel_rfl) [.keep [4, 5]] (by kernel_rfl) (by kernel_rfl) (by kernel_rfl) (by show _ = _; kernel_rfl) (by exact trivial) a w hm)))))))
            · have h := cond_ff hc h
              refine T_skip fun a w hm => then_norm (((?_ : T Tryd.prog e 88 _ _ _) a w hm))
              refine T_region [] [1, 6, 7, 9, 69, 70] [] [(1, .d (.str a1)), (6, .own 5 1 (v4.map cU)), (7, .d (.v (.int .i64 (IntKind.i64.wrap ((IntKind.i64.wrap (v1 + (1 : Int))) + (2 : Int)))))), (9, .d (.v (.int .i64 z1))), (69, .d (.v (.int .i64 (IntKind.i64.wrap ((IntKind.i64.wrap ((a1.getD v1.toNat 0).toNat : Int)) - (125 : Int)))))), (70, .d (.v (.int .i64 (0 : Int))))] [] 3 (by kernel_rfl) (trivial) ?_
              refine T_joinct h (fun (p : (List UInt8)) => [(1, .d (.str a1)), (6, .own 5 1 (p.map cU)), (7, .d (.v (.int .i64 (IntKind.i64.wrap ((IntKind.i64.wrap (v1 + (1 : Int))) + (2 : Int))))))]) (fun s h => ?_) (fun v5 h => ?_)
              · refine T_co [.keep [1, 6, 7, 9, 69, 70]] ((fun (p : (List UInt8) × Int) => [(1, .d (.str a1)), (6, .own 5 1 (p.1.map cU)), (7, .d (.v (.int .i64 (IntKind.i64.wrap ((IntKind.i64.wrap (v1 + (1 : Int))) + (2 : Int)))))), (9, .d (.v (.int .i64 z1))), (69, .d (.v (.int .i64 (IntKind.i64.wrap ((IntKind.i64.wrap ((a1.getD v1.toNat 0).toNat : Int)) - (125 : Int)))))), (70, .d (.v (.int .i64 p.2)))]) (v4, (0 : Int))) (by show _ = _; kernel_rfl) ?_
                refine T_block ?_
                refine T_loopF (ι := (List UInt8) × Int) (fun (p : (List UInt8) × Int) => [(1, .d (.str a1)), (6, .own 5 1 (p.1.map cU)), (7, .d (.v (.int .i64 (IntKind.i64.wrap ((IntKind.i64.wrap (v1 + (1 : Int))) + (2 : Int)))))), (9, .d (.v (.int .i64 z1))), (69, .d (.v (.int .i64 (IntKind.i64.wrap ((IntKind.i64.wrap ((a1.getD v1.toNat 0).toNat : Int)) - (125 : Int)))))), (70, .d (.v (.int .i64 p.2)))]) (fun n p => filter_copies_decode_L2 F a1 v1 z1 n p.1 p.2 = some s) (fun i hh => by simp [filter_copies_decode_L2] at hh) (fun n p h => ?_) F (v4, (0 : Int)) h
                obtain ⟨v2, v3⟩ := p
                have h : filter_copies_decode_L2 F a1 v1 z1 (n + 1) v2 v3 = some s := h
                rw [filter_copies_decode_L2] at h
                obtain ⟨z2, hz9, h⟩ := lett_ok h
                refine T_region [(0, { rw := some (.d (.v (.bool z2))) })] [1, 6, 7, 9, 69, 70, 71] [] [(1, .d (.str a1)), (6, .own 5 1 (v2.map cU)), (7, .d (.v (.int .i64 (IntKind.i64.wrap ((IntKind.i64.wrap (v1 + (1 : Int))) + (2 : Int)))))), (9, .d (.v (.int .i64 z1))), (69, .d (.v (.int .i64 (IntKind.i64.wrap ((IntKind.i64.wrap ((a1.getD v1.toNat 0).toNat : Int)) - (125 : Int)))))), (70, .d (.v (.int .i64 v3))), (71, .d (.v (.bool z2)))] [(0, (True) ∧ AV.d (.v (.bool (decide (v3 < (IntKind.i64.wrap ((IntKind.i64.wrap ((a1.getD v1.toNat 0).toNat : Int)) - (125 : Int))))))) = .d (.v (.bool z2)))] 0 (by kernel_rfl) (⟨trivial, (by subst hz9; rfl)⟩) ?_
                refine T_seqk ?_
                refine T_cond z2 (by kernel_rfl) (fun hc => ?_) (fun hc => ?_)
                · have h := cond_tt hc h
                  refine T_skip fun a w hm => then_norm (((?_ : T Tryd.prog e 88 _ _ _) a w hm))
                  refine T_seqk ?_
                  refine T_block ?_
                  obtain ⟨hp6, h⟩ := chk_ok h
                  obtain ⟨hp7, h⟩ := chk_ok h
                  obtain ⟨hp8, h⟩ := chk_ok h
                  obtain ⟨l1, hl1, h⟩ := lett_ok h
                  refine T_region_end [(3, { rw := some (.d (.v (.int .i64 (v2.length : Int)))) }), (7, { cs := cU (v2.getD (IntKind.i64.wrap ((v2.length : Int) - z1)).toNat 0) }), (8, { es := some (([(UInt8.ofNat ((v2.getD (IntKind.i64.wrap ((v2.length : Int) - z1)).toNat 0).toNat : Int).toNat)]).map cU) }), (9, { es := some (l1.map cU) })] [1, 6, 7, 9, 69, 70] [] [(1, .d (.str a1)), (6, .own 5 1 (l1.map cU)), (7, .d (.v (.int .i64 (IntKind.i64.wrap ((IntKind.i64.wrap (v1 + (1 : Int))) + (2 : Int)))))), (9, .d (.v (.int .i64 z1))), (69, .d (.v (.int .i64 (IntKind.i64.wrap ((IntKind.i64.wrap ((a1.getD v1.toNat 0).toNat : Int)) - (125 : Int)))))), (70, .d (.v (.int .i64 v3)))] [(3, True ∧ AV.d (.v (.int .i64 ((v2.map cU).length : Int))) = .d (.v (.int .i64 (v2.length : Int)))), (2, 0 ≤ (IntKind.i64.wrap ((v2.length : Int) - z1)) ∧ (IntKind.i64.wrap ((v2.length : Int) - z1)) < (v2.map cU).length), (0, (v2.map cU)[(IntKind.i64.wrap ((v2.length : Int) - z1)).toNat]? = some (cU (v2.getD (IntKind.i64.wrap ((v2.length : Int) - z1)).toNat 0))), (0, [[Dat.v (.int .u8 ((v2.getD (IntKind.i64.wrap ((v2.length : Int) - z1)).toNat 0).toNat : Int))]] = (([(UInt8.ofNat ((v2.getD (IntKind.i64.wrap ((v2.length : Int) - z1)).toNat 0).toNat : Int).toNat)]).map cU)), (0, (v2.map cU).length + (([(UInt8.ofNat ((v2.getD (IntKind.i64.wrap ((v2.length : Int) - z1)).toNat 0).toNat : Int).toNat)]).map cU).length ≤ 4294967296 ∧ (v2.map cU) ++ (([(UInt8.ofNat ((v2.getD (IntKind.i64.wrap ((v2.length : Int) - z1)).toNat 0).toNat : Int).toNat)]).map cU) = (l1.map cU))] 1 (by kernel_rfl) (⟨len_ok cU, own_idx cU hp6, (idx_ok (d := 0) cU hp6).2, (lit_u hp7 rfl), and_trans (app_ok cU hp8) (by subst hl1; rfl)⟩) fun a w hm => inBlock_norm (then_norm (((?_ : T Tryd.prog e 88 _ _ _) a w hm)))
                  refine T_region_end [] [1, 6, 7, 9, 69, 70] [] [(1, .d (.str a1)), (6, .own 5 1 (l1.map cU)), (7, .d (.v (.int .i64 (IntKind.i64.wrap ((IntKind.i64.wrap (v1 + (1 : Int))) + (2 : Int)))))), (9, .d (.v (.int .i64 z1))), (69, .d (.v (.int .i64 (IntKind.i64.wrap ((IntKind.i64.wrap ((a1.getD v1.toNat 0).toNat : Int)) - (125 : Int)))))), (70, .d (.v (.int .i64 (IntKind.i64.wrap (v3 + (1 : Int))))))] [] 2 (by kernel_rfl) (trivial) fun a w hm => then_norm (⟨(l1, IntKind.i64.wrap (v3 + (1 : Int))), h, hm.co (cs := [.keep [1, 6, 7, 9, 69, 70]]) (by show _ = _; kernel_rfl)⟩)
                · have h := cond_ff hc h
                  obtain hs := Option.some.inj h; subst hs
                  refine T_exit fun a w hm => then_exit (then_exit (inBlock_exit (then_norm (hm.co (cs := [.keep [1, 6, 7]]) (by show _ = _; kernel_rfl)))))
              · skip
                obtain hs := Option.some.inj h; subst hs
                refine fun a w hm => then_norm (⟨_, rfl, hm.co (cs := [.keep [1, 6, 7]]) (by show _ = _; kernel_rfl)⟩)
      · obtain ⟨v6, v7⟩ := s
        try dsimp only at h
        refine T_region [(1, { rw := some (.d (.v (.int .i64 (v6.length : Int)))) })] [1, 6, 7, 85] [] [(1, .d (.str a1)), (6, .own 5 1 (v6.map cU)), (7, .d (.v (.int .i64 v7))), (85, .d (.v (.bool (decide ((v6.length : Int) > (65536 : Int))))))] [(1, True ∧ AV.d (.v (.int .i64 ((v6.map cU).length : Int))) = .d (.v (.int .i64 (v6.length : Int))))] 1 (by kernel_rfl) (len_ok cU) ?_
        refine T_cond (decide ((v6.length : Int) > (65536 : Int))) (by kernel_rfl) (fun hc => ?_) (fun hc => ?_)
        · have h := cond_tt hc h
          refine T_region [] [4, 5] [] [(4, .d (.str [])), (5, .d (.v (.int .i64 (2 : Int))))] [] 2 (by kernel_rfl) (trivial) ?_
          obtain hs := Option.some.inj h; subst hs
          have h := callE_esc hk1
          obtain hs := Option.some.inj h; subst hs
          refine T_ret fun a w hm => inBlock_ret (then_ret (inBlock_ret (then_ret (then_ret (T_return (fr' := [(4, .d (.str [])), (5, .d (.v (.int .i64 (2 : Int))))]) [4, 5] (by kernel_rfl) [.keep [4, 5]] (by kernel_rfl) (by kernel_rfl) (by kernel_rfl) (by show _ = _; kernel_rfl) (by exact trivial) a w hm)))))
        · have h := cond_ff hc h
          refine T_skip fun a w hm => inBlock_norm (then_norm (⟨(v6, v7), h, hm.co (cs := [.keep [1, 6, 7]]) (by show _ = _; kernel_rfl)⟩))
    · have h := cond_ff hc h
      obtain hs := Option.some.inj h; subst hs
      refine T_exit fun a w hm => then_exit (then_exit (inBlock_exit (then_norm (⟨_, rfl, hm.co (cs := [.keep [6]]) (by show _ = _; kernel_rfl)⟩))))
  · skip
    refine fun a w hm => then_norm (((?_ : T Tryd.prog e 88 _ _ _) a w hm))
    refine T_region [(1, { cs := [.str v8] })] [4, 5] [] [(4, .d (.str v8)), (5, .d (.v (.int .i64 (0 : Int))))] [(1, (v8.map cU) = byteCells v8)] 2 (by kernel_rfl) (rfl) ?_
    obtain hs := Option.some.inj h; subst hs
    refine T_ret fun a w hm => T_return (fr' := [(4, .d (.str v8)), (5, .d (.v (.int .i64 (0 : Int))))]) [4, 5] (by kernel_rfl) [.keep [4, 5]] (by kernel_rfl) (by kernel_rfl) (by kernel_rfl) (by show _ = _; kernel_rfl) (by exact trivial) a w hm

theorem filter_group_ok {F : Nat} {a0 : List UInt8} {r : (List UInt8)} (h : filter_group F a0 = some r) : ACall Tryd.prog 209 [.d (.str a0)] [] (.d (.str r)) [] := by
  rw [filter_group] at h
  refine ACall.intro (N := 47) Tryd.func209 rfl rfl rfl rfl rfl fun e => ?_
  refine T_region [] [0] [] [(0, .d (.str a0))] [] 1 (by kernel_rfl) (trivial) ?_
  refine T_region [] [0, 3] [] [(0, .d (.str a0)), (3, .d (.v (.int .u32 (0 : Int))))] [] 1 (by kernel_rfl) (trivial) ?_
  refine T_seqk ?_
  refine T_region [] [0, 3, 7] [] [(0, .d (.str a0)), (3, .d (.v (.int .u32 (0 : Int)))), (7, .d (.v (.int .i64 (0 : Int))))] [] 1 (by kernel_rfl) (trivial) ?_
  refine T_joinct h (fun (p : Int) => [(0, .d (.str a0)), (3, .d (.v (.int .u32 p)))]) (fun s h => ?_) (fun v7 h => ?_)
  · refine T_co [.keep [0, 3, 7]] ((fun (p : Int × Int) => [(0, .d (.str a0)), (3, .d (.v (.int .u32 p.1))), (7, .d (.v (.int .i64 p.2)))]) ((0 : Int), (0 : Int))) (by show _ = _; kernel_rfl) ?_
    refine T_block ?_
    refine T_loopF (ι := Int × Int) (fun (p : Int × Int) => [(0, .d (.str a0)), (3, .d (.v (.int .u32 p.1))), (7, .d (.v (.int .i64 p.2)))]) (fun n p => filter_group_L0 F a0 n p.1 p.2 = some s) (fun i hh => by simp [filter_group_L0] at hh) (fun n p h => ?_) F ((0 : Int), (0 : Int)) h
    obtain ⟨v1, v2⟩ := p
    have h : filter_group_L0 F a0 (n + 1) v1 v2 = some s := h
    rw [filter_group_L0] at h
    refine T_region [] [0, 3, 7, 8] [] [(0, .d (.str a0)), (3, .d (.v (.int .u32 v1))), (7, .d (.v (.int .i64 v2))), (8, .d (.v (.bool (decide (v2 < (4 : Int))))))] [] 1 (by kernel_rfl) (trivial) ?_
    refine T_seqk ?_
    refine T_cond (decide (v2 < (4 : Int))) (by kernel_rfl) (fun hc => ?_) (fun hc => ?_)
    · have h := cond_tt hc h
      refine T_skip fun a w hm => then_norm (((?_ : T Tryd.prog e 47 _ _ _) a w hm))
      refine T_joinc h (fun (p : Int) => [(0, .d (.str a0)), (3, .d (.v (.int .u32 p))), (7, .d (.v (.int .i64 v2)))]) (fun s h => ?_) (fun v3 h => ?_)
      · refine T_block ?_
        refine T_region [] [0, 3, 4, 7] [] [(0, .d (.str a0)), (3, .d (.v (.int .u32 v1))), (4, .d (.v (.int .i64 v2))), (7, .d (.v (.int .i64 v2)))] [] 2 (by kernel_rfl) (trivial) ?_
        refine T_region [] [0, 3, 4, 7] [] [(0, .d (.str a0)), (3, .d (.v (.int .u32 (IntKind.u32.wrap (v1 * 2 ^ (min (8 : Int).toNat IntKind.u32.bits)))))), (4, .d (.v (.int .i64 v2))), (7, .d (.v (.int .i64 v2)))] [(1, 0 ≤ (8 : Int))] 1 (by kernel_rfl) ((show 0 ≤ (8 : Int) by decide)) ?_
        refine T_region [] [0, 3, 4, 7, 15] [] [(0, .d (.str a0)), (3, .d (.v (.int .u32 (IntKind.u32.wrap (v1 * 2 ^ (min (8 : Int).toNat IntKind.u32.bits)))))), (4, .d (.v (.int .i64 v2))), (7, .d (.v (.int .i64 v2))), (15, .d (.v (.bool (decide (v2 < (a0.length : Int))))))] [] 4 (by kernel_rfl) (trivial) ?_
        refine T_cond (decide (v2 < (a0.length : Int))) (by kernel_rfl) (fun hc => ?_) (fun hc => ?_)
        · have h := cond_tt hc h
          obtain ⟨hp1, h⟩ := chk_ok h
          obtain ⟨z1, hz1, h⟩ := lett_ok h
          obtain hs := Option.some.inj h; subst hs
          refine T_region_end [(5, { rw := some (.d (.v (.int .u32 z1))) })] [0, 3, 7] [] [(0, .d (.str a0)), (3, .d (.v (.int .u32 z1))), (7, .d (.v (.int .i64 v2)))] [(3, 0 ≤ v2 ∧ v2 < a0.length), (1, (True) ∧ AV.d (.v (.int .u32 (IntKind.u32.wrap ((BitVec.ofInt IntKind.u32.bits (IntKind.u32.wrap (v1 * 2 ^ (min (8 : Int).toNat IntKind.u32.bits))) ||| BitVec.ofInt IntKind.u32.bits (IntKind.u32.wrap ((a0.getD v2.toNat 0).toNat : Int))).toNat : Int)))) = .d (.v (.int .u32 z1)))] 1 (by kernel_rfl) (⟨hp1, ⟨trivial, (by subst hz1; rfl)⟩⟩) fun a w hm => inBlock_norm (then_norm (hm.co (cs := [.keep [0, 3, 7]]) (by show _ = _; kernel_rfl)))
        · have h := cond_ff hc h
          obtain hs := Option.some.inj h; subst hs
          refine T_skip fun a w hm => inBlock_norm (then_norm (hm.co (cs := [.keep [0, 3, 7]]) (by show _ = _; kernel_rfl)))
      · skip
        refine T_region_end [] [0, 3, 7] [] [(0, .d (.str a0)), (3, .d (.v (.int .u32 v3))), (7, .d (.v (.int .i64 (IntKind.i64.wrap (v2 + (1 : Int))))))] [] 2 (by kernel_rfl) (trivial) fun a w hm => then_norm (⟨(v3, IntKind.i64.wrap (v2 + (1 : Int))), h, hm.co (cs := [.keep [0, 3, 7]]) (by show _ = _; kernel_rfl)⟩)
    · have h := cond_ff hc h
      obtain hs := Option.some.inj h; subst hs
      refine T_exit fun a w hm => then_exit (then_exit (inBlock_exit (then_norm (hm.co (cs := [.keep [0, 3]]) (by show _ = _; kernel_rfl)))))
  · skip
    refine fun a w hm => then_norm (((?_ : T Tryd.prog e 47 _ _ _) a w hm))
    refine T_seqk ?_
    refine T_region [] [0, 3, 29] [] [(0, .d (.str a0)), (3, .d (.v (.int .u32 v7))), (29, .d (.v (.bool (bif (v7 == (0 : Int)) then ((a0.length : Int) == (4 : Int)) else false))))] [(3, ((((v7 == (0 : Int)) == true) && true) = true → True)), (0, ((((v7 == (0 : Int)) == true) && true) = true → True)), (0, ((((v7 == (0 : Int)) == true) && true) = true → True))] 1 (by kernel_rfl) (⟨(fun hg => trivial), (fun hg => trivial), (fun hg => trivial)⟩) ?_
    refine T_cond (bif (v7 == (0 : Int)) then ((a0.length : Int) == (4 : Int)) else false) (by kernel_rfl) (fun hc => ?_) (fun hc => ?_)
    · have h := cond_tt hc h
      refine T_region [] [2] [] [(2, .d (.str ([122] : List UInt8)))] [] 1 (by kernel_rfl) (trivial) ?_
      obtain hs := Option.some.inj h; subst hs
      refine T_ret fun a w hm => then_ret (T_return (fr' := [(2, .d (.str ([122] : List UInt8)))]) [2] (by kernel_rfl) [.keep [2]] (by kernel_rfl) (by kernel_rfl) (by kernel_rfl) (by show _ = _; kernel_rfl) (by exact trivial) a w hm)
    · have h := cond_ff hc h
      refine T_skip fun a w hm => then_norm (((?_ : T Tryd.prog e 47 _ _ _) a w hm))
      refine T_region [(0, { es := some ((List.replicate 5 0).map cU) })] [0, 3, 5] [] [(0, .d (.str a0)), (3, .d (.v (.int .u32 v7))), (5, .arr 213 1 ((List.replicate 5 0).map cU))] [(0, ArrZero Tryd.prog 213 5 5 ∧ List.replicate 5 (cU 0) = ((List.replicate 5 0).map cU))] 0 (by kernel_rfl) (⟨(by show _ = _; kernel_rfl), repl_ok cU rfl⟩) ?_
      refine T_seqk ?_
      refine T_region [] [0, 3, 5, 6] [] [(0, .d (.str a0)), (3, .d (.v (.int .u32 v7))), (5, .arr 213 1 ((List.replicate 5 0).map cU)), (6, .d (.v (.int .i64 (4 : Int))))] [] 1 (by kernel_rfl) (trivial) ?_
      refine T_joinct h (fun (p : (List UInt8)) => [(0, .d (.str a0)), (5, .arr 213 1 (p.map cU))]) (fun s h => ?_) (fun v8 h => ?_)
      · refine T_co [.keep [0, 3, 5, 6]] ((fun (p : Int × (List UInt8) × Int) => [(0, .d (.str a0)), (3, .d (.v (.int .u32 p.1))), (5, .arr 213 1 (p.2.1.map cU)), (6, .d (.v (.int .i64 p.2.2)))]) (v7, (List.replicate 5 0), (4 : Int))) (by show _ = _; kernel_rfl) ?_
        refine T_block ?_
        refine T_loopF (ι := Int × (List UInt8) × Int) (fun (p : Int × (List UInt8) × Int) => [(0, .d (.str a0)), (3, .d (.v (.int .u32 p.1))), (5, .arr 213 1 (p.2.1.map cU)), (6, .d (.v (.int .i64 p.2.2)))]) (fun n p => filter_group_L2 F n p.1 p.2.1 p.2.2 = some s) (fun i hh => by simp [filter_group_L2] at hh) (fun n p h => ?_) F (v7, (List.replicate 5 0), (4 : Int)) h
        obtain ⟨v4, v5, v6⟩ := p
        have h : filter_group_L2 F (n + 1) v4 v5 v6 = some s := h
        rw [filter_group_L2] at h
        refine T_seqk ?_
        refine T_region [] [0, 3, 5, 6, 31] [] [(0, .d (.str a0)), (3, .d (.v (.int .u32 v4))), (5, .arr 213 1 (v5.map cU)), (6, .d (.v (.int .i64 v6))), (31, .d (.v (.bool (decide (v6 ≥ (0 : Int))))))] [] 2 (by kernel_rfl) (trivial) ?_
        refine T_cond (decide (v6 ≥ (0 : Int))) (by kernel_rfl) (fun hc => ?_) (fun hc => ?_)
        · have h := cond_tt hc h
          refine T_skip fun a w hm => then_norm (((?_ : T Tryd.prog e 47 _ _ _) a w hm))
          refine T_seqk ?_
          refine T_block ?_
          obtain ⟨hp2, h⟩ := chk_ok h
          obtain ⟨hp3, h⟩ := chk_ok h
          refine T_region [(6, { cs := cU (v5.getD v6.toNat 0), es := some ((v5.set v6.toNat (UInt8.ofNat (IntKind.u8.wrap ((33 : Int) + (IntKind.u8.wrap (v4.tmod (85 : Int))))).toNat)).map cU) })] [0, 3, 5, 6] [] [(0, .d (.str a0)), (3, .d (.v (.int .u32 v4))), (5, .arr 213 1 ((v5.set v6.toNat (UInt8.ofNat (IntKind.u8.wrap ((33 : Int) + (IntKind.u8.wrap (v4.tmod (85 : Int))))).toNat)).map cU)), (6, .d (.v (.int .i64 v6)))] [(2, (85 : Int) ≠ 0), (2, 0 ≤ v6 ∧ v6 < 5), (0, (v5.map cU)[v6.toNat]? = some (cU (v5.getD v6.toNat 0)) ∧ (v5.map cU).set v6.toNat ([Dat.v (.int .u8 (IntKind.u8.wrap ((33 : Int) + (IntKind.u8.wrap (v4.tmod (85 : Int))))))]) = ((v5.set v6.toNat (UInt8.ofNat (IntKind.u8.wrap ((33 : Int) + (IntKind.u8.wrap (v4.tmod (85 : Int))))).toNat)).map cU))] 0 (by kernel_rfl) (⟨(show (85 : Int) ≠ 0 by decide), (hp2).1, ⟨(idx_ok (d := 0) cU ⟨(hp2).1.1, (hp2).2⟩).2, set_ok cU (cU_ofInt hp3)⟩⟩) ?_
          refine T_region_end [] [0, 3, 5, 6] [] [(0, .d (.str a0)), (3, .d (.v (.int .u32 (IntKind.u32.wrap (v4.tdiv (85 : Int)))))), (5, .arr 213 1 ((v5.set v6.toNat (UInt8.ofNat (IntKind.u8.wrap ((33 : Int) + (IntKind.u8.wrap (v4.tmod (85 : Int))))).toNat)).map cU)), (6, .d (.v (.int .i64 v6)))] [(1, (85 : Int) ≠ 0)] 1 (by kernel_rfl) ((show (85 : Int) ≠ 0 by decide)) fun a w hm => inBlock_norm (then_norm (((?_ : T Tryd.prog e 47 _ _ _) a w hm)))
          refine T_region_end [] [0, 3, 5, 6] [] [(0, .d (.str a0)), (3, .d (.v (.int .u32 (IntKind.u32.wrap (v4.tdiv (85 : Int)))))), (5, .arr 213 1 ((v5.set v6.toNat (UInt8.ofNat (IntKind.u8.wrap ((33 : Int) + (IntKind.u8.wrap (v4.tmod (85 : Int))))).toNat)).map cU)), (6, .d (.v (.int .i64 (IntKind.i64.wrap (v6 - (1 : Int))))))] [] 3 (by kernel_rfl) (trivial) fun a w hm => then_norm (⟨(IntKind.u32.wrap (v4.tdiv (85 : Int)), (v5.set v6.toNat (UInt8.ofNat (IntKind.u8.wrap ((33 : Int) + (IntKind.u8.wrap (v4.tmod (85 : Int))))).toNat)), IntKind.i64.wrap (v6 - (1 : Int))), h, hm.co (cs := [.keep [0, 3, 5, 6]]) (by show _ = _; kernel_rfl)⟩)
        · have h := cond_ff hc h
          obtain hs := Option.some.inj h; subst hs
          refine T_exit fun a w hm => then_exit (then_exit (inBlock_exit (then_norm (hm.co (cs := [.keep [0, 5]]) (by show _ = _; kernel_rfl)))))
      · skip
        refine fun a w hm => then_norm (((?_ : T Tryd.prog e 47 _ _ _) a w hm))
        obtain ⟨hp4, h⟩ := chk_ok h
        obtain ⟨z2, hz2, h⟩ := lett_ok h
        refine T_region [(3, { frz := [(5, 0)], es := some (((v8.drop (0 : Int).toNat).take ((IntKind.i64.wrap ((a0.length : Int) + (1 : Int))).toNat - (0 : Int).toNat)).map cU), rw := some (.d (.sl 1 (z2.map cU))) }), (4, { cs := [.str z2] })] [2] [] [(2, .d (.str z2))] [(3, ((0 ≤ (0 : Int) ∧ (0 : Int) ≤ (IntKind.i64.wrap ((a0.length : Int) + (1 : Int))) ∧ (IntKind.i64.wrap ((a0.length : Int) + (1 : Int))) ≤ ((5 : Nat) : Int)) ∧ (((v8.map cU).flatten.drop ((0 : Int).toNat * 1)).take (((IntKind.i64.wrap ((a0.length : Int) + (1 : Int))).toNat - (0 : Int).toNat) * 1) = (((v8.drop (0 : Int).toNat).take ((IntKind.i64.wrap ((a0.length : Int) + (1 : Int))).toNat - (0 : Int).toNat)).map cU).flatten ∧ (((v8.drop (0 : Int).toNat).take ((IntKind.i64.wrap ((a0.length : Int) + (1 : Int))).toNat - (0 : Int).toNat)).map cU).length = (IntKind.i64.wrap ((a0.length : Int) + (1 : Int))).toNat - (0 : Int).toNat ∧ ∀ e ∈ (((v8.drop (0 : Int).toNat).take ((IntKind.i64.wrap ((a0.length : Int) + (1 : Int))).toNat - (0 : Int).toNat)).map cU), e.length = 1)) ∧ AV.d (.sl 1 (((v8.drop (0 : Int).toNat).take ((IntKind.i64.wrap ((a0.length : Int) + (1 : Int))).toNat - (0 : Int).toNat)).map cU)) = .d (.sl 1 (z2.map cU))), (0, (z2.map cU) = byteCells z2)] 1 (by kernel_rfl) (⟨⟨arrcut_ok cU 1 (fun _ => rfl) hp4, (by subst hz2; rfl)⟩, rfl⟩) ?_
        obtain hs := Option.some.inj h; subst hs
        refine T_ret fun a w hm => T_return (fr' := [(2, .d (.str z2))]) [2] (by kernel_rfl) [.keep [2]] (by kernel_rfl) (by kernel_rfl) (by kernel_rfl) (by show _ = _; kernel_rfl) (by exact trivial) a w hm

theorem filter_ungroup_ok {F : Nat} {a0 : List UInt8} {r : (List UInt8) × Int} (h : filter_ungroup F a0 = some r) : ACall Tryd.prog 208 [.d (.str a0)] [] (.tup [.d (.str r.1), .d (.v (.int .i64 r.2))]) [] := by
  rw [filter_ungroup] at h
  refine ACall.intro (N := 63) Tryd.func208 rfl rfl rfl rfl rfl fun e => ?_
  refine T_region [] [0] [] [(0, .d (.str a0))] [] 2 (by kernel_rfl) (trivial) ?_
  refine T_region [] [0, 4] [] [(0, .d (.str a0)), (4, .d (.v (.int .u64 (0 : Int))))] [] 1 (by kernel_rfl) (trivial) ?_
  refine T_seqk ?_
  refine T_region [] [0, 4, 8] [] [(0, .d (.str a0)), (4, .d (.v (.int .u64 (0 : Int)))), (8, .d (.v (.int .i64 (0 : Int))))] [] 1 (by kernel_rfl) (trivial) ?_
  refine T_joinEt h (fun (p : Int) => [(0, .d (.str a0)), (4, .d (.v (.int .u64 p)))]) (fun s h hk1 => ?_) (fun v4 h => ?_)
  · refine T_co [.keep [0, 4, 8]] ((fun (p : Int × Int) => [(0, .d (.str a0)), (4, .d (.v (.int .u64 p.1))), (8, .d (.v (.int .i64 p.2)))]) ((0 : Int), (0 : Int))) (by show _ = _; kernel_rfl) ?_
    refine T_block ?_
    refine T_loopF (ι := Int × Int) (fun (p : Int × Int) => [(0, .d (.str a0)), (4, .d (.v (.int .u64 p.1))), (8, .d (.v (.int .i64 p.2)))]) (fun n p => filter_ungroup_L0 F a0 n p.1 p.2 = some s) (fun i hh => by simp [filter_ungroup_L0] at hh) (fun n p h => ?_) F ((0 : Int), (0 : Int)) h
    obtain ⟨v1, v2⟩ := p
    have h : filter_ungroup_L0 F a0 (n + 1) v1 v2 = some s := h
    rw [filter_ungroup_L0] at h
    refine T_region [] [0, 4, 8, 9] [] [(0, .d (.str a0)), (4, .d (.v (.int .u64 v1))), (8, .d (.v (.int .i64 v2))), (9, .d (.v (.bool (decide (v2 < (5 : Int))))))] [] 1 (by kernel_rfl) (trivial) ?_
    refine T_seqk ?_
    refine T_cond (decide (v2 < (5 : Int))) (by kernel_rfl) (fun hc => ?_) (fun hc => ?_)
    · have h := cond_tt hc h
      refine T_skip fun a w hm => then_norm (((?_ : T Tryd.prog e 63 _ _ _) a w hm))
      refine T_seqk ?_
      refine T_block ?_
      refine T_region [] [0, 4, 5, 8] [] [(0, .d (.str a0)), (4, .d (.v (.int .u64 v1))), (5, .d (.v (.int .i64 v2))), (8, .d (.v (.int .i64 v2)))] [] 2 (by kernel_rfl) (trivial) ?_
      refine T_region [] [0, 4, 5, 6, 8] [] [(0, .d (.str a0)), (4, .d (.v (.int .u64 v1))), (5, .d (.v (.int .i64 v2))), (6, .d (.v (.int .u64 (84 : Int)))), (8, .d (.v (.int .i64 v2)))] [] 1 (by kernel_rfl) (trivial) ?_
      refine T_joinE h (fun (p : Int) => [(0, .d (.str a0)), (4, .d (.v (.int .u64 v1))), (6, .d (.v (.int .u64 p))), (8, .d (.v (.int .i64 v2)))]) (fun s h hk2 => ?_) (fun v3 h => ?_)
      · refine T_region [] [0, 4, 5, 6, 8, 14] [] [(0, .d (.str a0)), (4, .d (.v (.int .u64 v1))), (5, .d (.v (.int .i64 v2))), (6, .d (.v (.int .u64 (84 : Int)))), (8, .d (.v (.int .i64 v2))), (14, .d (.v (.bool (decide (v2 < (a0.length : Int))))))] [] 4 (by kernel_rfl) (trivial) ?_
        refine T_cond (decide (v2 < (a0.length : Int))) (by kernel_rfl) (fun hc => ?_) (fun hc => ?_)
        · have h := cond_tt hc h
          refine T_seqk ?_
          obtain ⟨hp1, h⟩ := chk_ok h
          obtain ⟨hp2, h⟩ := chk_ok h
          obtain ⟨z1, hz1, h⟩ := lett_ok h
          refine T_region [(9, { rw := some (.d (.v (.bool z1))) })] [0, 4, 5, 8, 24] [] [(0, .d (.str a0)), (4, .d (.v (.int .u64 v1))), (5, .d (.v (.int .i64 v2))), (8, .d (.v (.int .i64 v2))), (24, .d (.v (.bool z1)))] [(2, 0 ≤ v2 ∧ v2 < a0.length), (2, ((((decide (((a0.getD v2.toNat 0).toNat : Int) < (33 : Int))) == false) && true) = true → True)), (0, ((((decide (((a0.getD v2.toNat 0).toNat : Int) < (33 : Int))) == false) && true) = true → True)), (0, ((((decide (((a0.getD v2.toNat 0).toNat : Int) < (33 : Int))) == false) && true) = true → 0 ≤ v2 ∧ v2 < a0.length)), (0, ((((decide (((a0.getD v2.toNat 0).toNat : Int) < (33 : Int))) == false) && true) = true → True)), (0, (True) ∧ AV.d (.v (.bool (bif (decide (((a0.getD v2.toNat 0).toNat : Int) < (33 : Int))) then true else (decide (((a0.getD v2.toNat 0).toNat : Int) > (117 : Int)))))) = .d (.v (.bool z1)))] 0 (by kernel_rfl) (⟨hp1, (fun hg => trivial), (fun hg => trivial), (fun hg => (hp2 hg)), (fun hg => trivial), ⟨trivial, (by subst hz1; rfl)⟩⟩) ?_
          refine T_cond z1 (by kernel_rfl) (fun hc => ?_) (fun hc => ?_)
          · have h := cond_tt hc h
            refine T_region [] [2, 3] [] [(2, .d (.str [])), (3, .d (.v (.int .i64 (5 : Int))))] [] 2 (by kernel_rfl) (trivial) ?_
            obtain hs := Option.some.inj h; subst hs
            have h := callE_esc hk2
            obtain hs := Option.some.inj h; subst hs
            have h := callE_esc hk1
            obtain hs := Option.some.inj h; subst hs
            refine T_ret fun a w hm => then_ret (then_ret (inBlock_ret (then_ret (then_ret (inBlock_ret (then_ret (then_ret (T_return (fr' := [(2, .d (.str [])), (3, .d (.v (.int .i64 (5 : Int))))]) [2, 3] (by kernel_rfl) [.keep [2, 3]] (by kernel_rfl) (by kernel_rfl) (by kernel_rfl) (by show _ = _; kernel_rfl) (by exact trivial) a w hm))))))))
          · have h := cond_ff hc h
            refine T_skip fun a w hm => then_norm (((?_ : T Tryd.prog e 63 _ _ _) a w hm))
            obtain ⟨hp3, h⟩ := chk_ok h
            obtain hs := Option.some.inj h; subst hs
            refine T_region_end [] [0, 4, 6, 8] [] [(0, .d (.str a0)), (4, .d (.v (.int .u64 v1))), (6, .d (.v (.int .u64 (IntKind.u64.wrap (IntKind.u8.wrap (((a0.getD v2.toNat 0).toNat : Int) - (33 : Int))))))), (8, .d (.v (.int .i64 v2)))] [(2, 0 ≤ v2 ∧ v2 < a0.length)] 3 (by kernel_rfl) (hp3) fun a w hm => then_norm (⟨_, rfl, hm.co (cs := [.keep [0, 4, 6, 8]]) (by show _ = _; kernel_rfl)⟩)
        · have h := cond_ff hc h
          obtain hs := Option.some.inj h; subst hs
          refine T_skip fun a w hm => then_norm (⟨_, rfl, hm.co (cs := [.keep [0, 4, 6, 8]]) (by show _ = _; kernel_rfl)⟩)
      · skip
        refine T_region_end [] [0, 4, 8] [] [(0, .d (.str a0)), (4, .d (.v (.int .u64 (IntKind.u64.wrap ((IntKind.u64.wrap (v1 * (85 : Int))) + v3))))), (8, .d (.v (.int .i64 v2)))] [] 5 (by kernel_rfl) (trivial) fun a w hm => inBlock_norm (then_norm (((?_ : T Tryd.prog e 63 _ _ _) a w hm)))
        refine T_region_end [] [0, 4, 8] [] [(0, .d (.str a0)), (4, .d (.v (.int .u64 (IntKind.u64.wrap ((IntKind.u64.wrap (v1 * (85 : Int))) + v3))))), (8, .d (.v (.int .i64 (IntKind.i64.wrap (v2 + (1 : Int))))))] [] 2 (by kernel_rfl) (trivial) fun a w hm => then_norm (⟨(IntKind.u64.wrap ((IntKind.u64.wrap (v1 * (85 : Int))) + v3), IntKind.i64.wrap (v2 + (1 : Int))), h, hm.co (cs := [.keep [0, 4, 8]]) (by show _ = _; kernel_rfl)⟩)
    · have h := cond_ff hc h
      obtain hs := Option.some.inj h; subst hs
      refine T_exit fun a w hm => then_exit (then_exit (inBlock_exit (then_norm (⟨_, rfl, hm.co (cs := [.keep [0, 4]]) (by show _ = _; kernel_rfl)⟩))))
  · skip
    refine fun a w hm => then_norm (((?_ : T Tryd.prog e 63 _ _ _) a w hm))
    refine T_seqk ?_
    refine T_region [] [0, 4, 37] [] [(0, .d (.str a0)), (4, .d (.v (.int .u64 v4))), (37, .d (.v (.bool ((a0.length : Int) == (1 : Int)))))] [] 3 (by kernel_rfl) (trivial) ?_
    refine T_cond ((a0.length : Int) == (1 : Int)) (by kernel_rfl) (fun hc => ?_) (fun hc => ?_)
    · have h := cond_tt hc h
      refine T_region [] [2, 3] [] [(2, .d (.str [])), (3, .d (.v (.int .i64 (12 : Int))))] [] 2 (by kernel_rfl) (trivial) ?_
      obtain hs := Option.some.inj h; subst hs
      refine T_ret fun a w hm => then_ret (T_return (fr' := [(2, .d (.str [])), (3, .d (.v (.int .i64 (12 : Int))))]) [2, 3] (by kernel_rfl) [.keep [2, 3]] (by kernel_rfl) (by kernel_rfl) (by kernel_rfl) (by show _ = _; kernel_rfl) (by exact trivial) a w hm)
    · have h := cond_ff hc h
      refine T_skip fun a w hm => then_norm (((?_ : T Tryd.prog e 63 _ _ _) a w hm))
      refine T_seqk ?_
      refine T_region [] [0, 4, 40] [] [(0, .d (.str a0)), (4, .d (.v (.int .u64 v4))), (40, .d (.v (.bool ((v4.fdiv (2 ^ (min (32 : Int).toNat IntKind.u64.bits))) != (0 : Int)))))] [(1, 0 ≤ (32 : Int))] 1 (by kernel_rfl) ((show 0 ≤ (32 : Int) by decide)) ?_
      refine T_cond ((v4.fdiv (2 ^ (min (32 : Int).toNat IntKind.u64.bits))) != (0 : Int)) (by kernel_rfl) (fun hc => ?_) (fun hc => ?_)
      · have h := cond_tt hc h
        refine T_region [] [2, 3] [] [(2, .d (.str [])), (3, .d (.v (.int .i64 (3 : Int))))] [] 2 (by kernel_rfl) (trivial) ?_
        obtain hs := Option.some.inj h; subst hs
        refine T_ret fun a w hm => then_ret (T_return (fr' := [(2, .d (.str [])), (3, .d (.v (.int .i64 (3 : Int))))]) [2, 3] (by kernel_rfl) [.keep [2, 3]] (by kernel_rfl) (by kernel_rfl) (by kernel_rfl) (by show _ = _; kernel_rfl) (by exact trivial) a w hm)
      · have h := cond_ff hc h
        refine T_skip fun a w hm => then_norm (((?_ : T Tryd.prog e 63 _ _ _) a w hm))
        obtain ⟨hp4, h⟩ := chk_ok h
        obtain ⟨hp5, h⟩ := chk_ok h
        obtain ⟨hp6, h⟩ := chk_ok h
        obtain ⟨hp7, h⟩ := chk_ok h
        obtain ⟨hp8, h⟩ := chk_ok h
        obtain ⟨z2, hz2, h⟩ := lett_ok h
        refine T_region [(11, { es := some (([(UInt8.ofNat (IntKind.u8.wrap (v4.fdiv (2 ^ (min (24 : Int).toNat IntKind.u64.bits)))).toNat), (UInt8.ofNat (IntKind.u8.wrap (v4.fdiv (2 ^ (min (16 : Int).toNat IntKind.u64.bits)))).toNat), (UInt8.ofNat (IntKind.u8.wrap (v4.fdiv (2 ^ (min (8 : Int).toNat IntKind.u64.bits)))).toNat), (UInt8.ofNat (IntKind.u8.wrap v4).toNat)]).map cU) }), (15, { take := [0], es := some ((([(UInt8.ofNat (IntKind.u8.wrap (v4.fdiv (2 ^ (min (24 : Int).toNat IntKind.u64.bits)))).toNat), (UInt8.ofNat (IntKind.u8.wrap (v4.fdiv (2 ^ (min (16 : Int).toNat IntKind.u64.bits)))).toNat), (UInt8.ofNat (IntKind.u8.wrap (v4.fdiv (2 ^ (min (8 : Int).toNat IntKind.u64.bits)))).toNat), (UInt8.ofNat (IntKind.u8.wrap v4).toNat)]).take (IntKind.i64.wrap ((a0.length : Int) - (1 : Int))).toNat).map cU) }), (16, { cs := [.str (([(UInt8.ofNat (IntKind.u8.wrap (v4.fdiv (2 ^ (min (24 : Int).toNat IntKind.u64.bits)))).toNat), (UInt8.ofNat (IntKind.u8.wrap (v4.fdiv (2 ^ (min (16 : Int).toNat IntKind.u64.bits)))).toNat), (UInt8.ofNat (IntKind.u8.wrap (v4.fdiv (2 ^ (min (8 : Int).toNat IntKind.u64.bits)))).toNat), (UInt8.ofNat (IntKind.u8.wrap v4).toNat)]).take (IntKind.i64.wrap ((a0.length : Int) - (1 : Int))).toNat)], rw := some (.d (.str z2)) })] [0, 7] [] [(0, .d (.str a0)), (7, .d (.str z2))] [(1, 0 ≤ (24 : Int)), (2, 0 ≤ (16 : Int)), (2, 0 ≤ (8 : Int)), (3, [[Dat.v (.int .u8 (IntKind.u8.wrap (v4.fdiv (2 ^ (min (24 : Int).toNat IntKind.u64.bits)))))], [Dat.v (.int .u8 (IntKind.u8.wrap (v4.fdiv (2 ^ (min (16 : Int).toNat IntKind.u64.bits)))))], [Dat.v (.int .u8 (IntKind.u8.wrap (v4.fdiv (2 ^ (min (8 : Int).toNat IntKind.u64.bits)))))], [Dat.v (.int .u8 (IntKind.u8.wrap v4))]] = (([(UInt8.ofNat (IntKind.u8.wrap (v4.fdiv (2 ^ (min (24 : Int).toNat IntKind.u64.bits)))).toNat), (UInt8.ofNat (IntKind.u8.wrap (v4.fdiv (2 ^ (min (16 : Int).toNat IntKind.u64.bits)))).toNat), (UInt8.ofNat (IntKind.u8.wrap (v4.fdiv (2 ^ (min (8 : Int).toNat IntKind.u64.bits)))).toNat), (UInt8.ofNat (IntKind.u8.wrap v4).toNat)]).map cU)), (3, (0 ≤ (IntKind.i64.wrap ((a0.length : Int) - (1 : Int))) ∧ (IntKind.i64.wrap ((a0.length : Int) - (1 : Int))) ≤ ((([(UInt8.ofNat (IntKind.u8.wrap (v4.fdiv (2 ^ (min (24 : Int).toNat IntKind.u64.bits)))).toNat), (UInt8.ofNat (IntKind.u8.wrap (v4.fdiv (2 ^ (min (16 : Int).toNat IntKind.u64.bits)))).toNat), (UInt8.ofNat (IntKind.u8.wrap (v4.fdiv (2 ^ (min (8 : Int).toNat IntKind.u64.bits)))).toNat), (UInt8.ofNat (IntKind.u8.wrap v4).toNat)]).map cU).length : Int)) ∧ (([(UInt8.ofNat (IntKind.u8.wrap (v4.fdiv (2 ^ (min (24 : Int).toNat IntKind.u64.bits)))).toNat), (UInt8.ofNat (IntKind.u8.wrap (v4.fdiv (2 ^ (min (16 : Int).toNat IntKind.u64.bits)))).toNat), (UInt8.ofNat (IntKind.u8.wrap (v4.fdiv (2 ^ (min (8 : Int).toNat IntKind.u64.bits)))).toNat), (UInt8.ofNat (IntKind.u8.wrap v4).toNat)]).map cU).take (IntKind.i64.wrap ((a0.length : Int) - (1 : Int))).toNat = ((([(UInt8.ofNat (IntKind.u8.wrap (v4.fdiv (2 ^ (min (24 : Int).toNat IntKind.u64.bits)))).toNat), (UInt8.ofNat (IntKind.u8.wrap (v4.fdiv (2 ^ (min (16 : Int).toNat IntKind.u64.bits)))).toNat), (UInt8.ofNat (IntKind.u8.wrap (v4.fdiv (2 ^ (min (8 : Int).toNat IntKind.u64.bits)))).toNat), (UInt8.ofNat (IntKind.u8.wrap v4).toNat)]).take (IntKind.i64.wrap ((a0.length : Int) - (1 : Int))).toNat).map cU)), (0, (((([(UInt8.ofNat (IntKind.u8.wrap (v4.fdiv (2 ^ (min (24 : Int).toNat IntKind.u64.bits)))).toNat), (UInt8.ofNat (IntKind.u8.wrap (v4.fdiv (2 ^ (min (16 : Int).toNat IntKind.u64.bits)))).toNat), (UInt8.ofNat (IntKind.u8.wrap (v4.fdiv (2 ^ (min (8 : Int).toNat IntKind.u64.bits)))).toNat), (UInt8.ofNat (IntKind.u8.wrap v4).toNat)]).take (IntKind.i64.wrap ((a0.length : Int) - (1 : Int))).toNat).map cU) = byteCells (([(UInt8.ofNat (IntKind.u8.wrap (v4.fdiv (2 ^ (min (24 : Int).toNat IntKind.u64.bits)))).toNat), (UInt8.ofNat (IntKind.u8.wrap (v4.fdiv (2 ^ (min (16 : Int).toNat IntKind.u64.bits)))).toNat), (UInt8.ofNat (IntKind.u8.wrap (v4.fdiv (2 ^ (min (8 : Int).toNat IntKind.u64.bits)))).toNat), (UInt8.ofNat (IntKind.u8.wrap v4).toNat)]).take (IntKind.i64.wrap ((a0.length : Int) - (1 : Int))).toNat)) ∧ AV.d (.str (([(UInt8.ofNat (IntKind.u8.wrap (v4.fdiv (2 ^ (min (24 : Int).toNat IntKind.u64.bits)))).toNat), (UInt8.ofNat (IntKind.u8.wrap (v4.fdiv (2 ^ (min (16 : Int).toNat IntKind.u64.bits)))).toNat), (UInt8.ofNat (IntKind.u8.wrap (v4.fdiv (2 ^ (min (8 : Int).toNat IntKind.u64.bits)))).toNat), (UInt8.ofNat (IntKind.u8.wrap v4).toNat)]).take (IntKind.i64.wrap ((a0.length : Int) - (1 : Int))).toNat)) = .d (.str z2))] 1 (by kernel_rfl) (⟨(show 0 ≤ (24 : Int) by decide), (show 0 ≤ (16 : Int) by decide), (show 0 ≤ (8 : Int) by decide), (lit_u hp4 (lit_u hp5 (lit_u hp6 (lit_u hp7 rfl)))), take_ok cU hp8, ⟨rfl, (by subst hz2; rfl)⟩⟩) ?_
        refine T_seqk ?_
        obtain ⟨y1, hy1, h⟩ := call_ok h
        refine T_region [(1, { res := .d (.str y1) })] [7, 61] [] [(7, .d (.str z2)), (61, .d (.v (.bool (!(y1 == a0)))))] [(1, ACall Tryd.prog 209 [.d (.str z2)] [] (.d (.str y1)) [])] 2 (by kernel_rfl) (filter_group_ok hy1) ?_
        refine T_cond (!(y1 == a0)) (by kernel_rfl) (fun hc => ?_) (fun hc => ?_)
        · have h := cond_tt hc h
          refine T_region [] [2, 3] [] [(2, .d (.str [])), (3, .d (.v (.int .i64 (4 : Int))))] [] 2 (by kernel_rfl) (trivial) ?_
          obtain hs := Option.some.inj h; subst hs
          refine T_ret fun a w hm => then_ret (T_return (fr' := [(2, .d (.str [])), (3, .d (.v (.int .i64 (4 : Int))))]) [2, 3] (by kernel_rfl) [.keep [2, 3]] (by kernel_rfl) (by kernel_rfl) (by kernel_rfl) (by show _ = _; kernel_rfl) (by exact trivial) a w hm)
        · have h := cond_ff hc h
          refine T_skip fun a w hm => then_norm (((?_ : T Tryd.prog e 63 _ _ _) a w hm))
          refine T_region [] [2, 3] [] [(2, .d (.str z2)), (3, .d (.v (.int .i64 (0 : Int))))] [] 3 (by kernel_rfl) (trivial) ?_
          obtain hs := Option.some.inj h; subst hs
          refine T_ret fun a w hm => T_return (fr' := [(2, .d (.str z2)), (3, .d (.v (.int .i64 (0 : Int))))]) [2, 3] (by kernel_rfl) [.keep [2, 3]] (by kernel_rfl) (by kernel_rfl) (by kernel_rfl) (by show _ = _; kernel_rfl) (by exact trivial) a w hm

theorem filter_text_decode_ok {F : Nat} {a0 : S_filter_copies} {a1 : List UInt8} {r : (List UInt8) × Int} (h : filter_text_decode F a0 a1 = some r) : ACall Tryd.prog 206 [.agg (cS_filter_copies a0), .d (.str a1)] [] (.tup [.d (.str r.1), .d (.v (.int .i64 r.2))]) [] := by
  rw [filter_text_decode] at h
  refine ACall.intro (N := 39) Tryd.func206 rfl rfl rfl rfl rfl fun e => ?_
  refine T_region [] [1] [] [(1, .d (.str a1))] [] 3 (by kernel_rfl) (trivial) ?_
  refine T_region [(0, { slfs := [(0, 0)] })] [1, 6] [] [(1, .d (.str a1)), (6, .box [.slf 0 89, .own 5 1 ([].map cU)])] [] 1 (by kernel_rfl) (trivial) ?_
  refine T_joinE h (fun (p : (List UInt8)) => [(6, .box [.slf 0 89, .own 5 1 (p.map cU)])]) (fun s h hk1 => ?_) (fun v5 h => ?_)
  · refine T_co [.keep [1, 6]] ((fun (p : (List UInt8) × (List UInt8)) => [(1, .d (.str p.1)), (6, .box [.slf 0 89, .own 5 1 (p.2.map cU)])]) (a1, [])) (by show _ = _; kernel_rfl) ?_
    refine T_block ?_
    refine T_loopF (ι := (List UInt8) × (List UInt8)) (fun (p : (List UInt8) × (List UInt8)) => [(1, .d (.str p.1)), (6, .box [.slf 0 89, .own 5 1 (p.2.map cU)])]) (fun n p => filter_text_decode_L0 F n p.1 p.2 = some s) (fun i hh => by simp [filter_text_decode_L0] at hh) (fun n p h => ?_) F (a1, []) h
    obtain ⟨v1, v2⟩ := p
    have h : filter_text_decode_L0 F (n + 1) v1 v2 = some s := h
    rw [filter_text_decode_L0] at h
    refine T_seqk ?_
    refine T_region [] [1, 6, 11] [] [(1, .d (.str v1)), (6, .box [.slf 0 89, .own 5 1 (v2.map cU)]), (11, .d (.v (.bool (!(v1 == [])))))] [] 2 (by kernel_rfl) (trivial) ?_
    refine T_cond (!(v1 == [])) (by kernel_rfl) (fun hc => ?_) (fun hc => ?_)
    · have h := cond_tt hc h
      refine T_skip fun a w hm => then_norm (((?_ : T Tryd.prog e 39 _ _ _) a w hm))
      refine T_block ?_
      refine T_joinE h (fun (p : (List UInt8) × (List UInt8)) => [(1, .d (.str p.1)), (6, .box [.slf 0 89, .own 5 1 (p.2.map cU)])]) (fun s h hk2 => ?_) (fun s h => ?_)
      · obtain ⟨hp1, h⟩ := chk_ok h
        refine T_region [] [1, 6, 14] [] [(1, .d (.str v1)), (6, .box [.slf 0 89, .own 5 1 (v2.map cU)]), (14, .d (.v (.bool (((v1.getD (0 : Int).toNat 0).toNat : Int) == (122 : Int)))))] [(1, 0 ≤ (0 : Int) ∧ (0 : Int) < v1.length)] 1 (by kernel_rfl) (hp1) ?_
        refine T_cond (((v1.getD (0 : Int).toNat 0).toNat : Int) == (122 : Int)) (by kernel_rfl) (fun hc => ?_) (fun hc => ?_)
        · have h := cond_tt hc h
          obtain ⟨y1, hy1, h⟩ := call_ok h
          refine T_region [(0, { res := .tup [.d (.v (.int .i64 y1.1)), .d (.v .nilIface)], vout := [.box [.slf 0 89, .own 5 1 (y1.2.2.map cU)]], xs := [6] })] [1, 6] [] [(1, .d (.str v1)), (6, .box [.slf 0 89, .own 5 1 (y1.2.2.map cU)])] [(0, ACall Tryd.prog 90 [.bp 1000000 0, .d (.str ([0, 0, 0, 0] : List UInt8))] [.box [.slf 0 89, .own 5 1 (v2.map cU)]] (.tup [.d (.v (.int .i64 y1.1)), .d (.v .nilIface)]) [.box [.slf 0 89, .own 5 1 (y1.2.2.map cU)]])] 0 (by kernel_rfl) (strings_Builder_WriteString_ok hy1) ?_
          obtain ⟨hp2, h⟩ := chk_ok h
          obtain hs := Option.some.inj h; subst hs
          refine T_region_end [] [1, 6] [] [(1, .d (.str ((v1.drop (1 : Int).toNat).take ((v1.length : Int).toNat - (1 : Int).toNat)))), (6, .box [.slf 0 89, .own 5 1 (y1.2.2.map cU)])] [(1, 0 ≤ (1 : Int) ∧ (1 : Int) ≤ (v1.length : Int) ∧ (v1.length : Int) ≤ (v1.length : Int))] 1 (by kernel_rfl) (hp2) fun a w hm => then_norm (⟨_, rfl, hm.co (cs := [.keep [1, 6]]) (by show _ = _; kernel_rfl)⟩)
        · have h := cond_ff hc h
          refine T_region [] [1, 6, 7] [] [(1, .d (.str v1)), (6, .box [.slf 0 89, .own 5 1 (v2.map cU)]), (7, .d (.v (.int .i64 (if (5 : Int) < (v1.length : Int) then (5 : Int) else (v1.length : Int)))))] [] 4 (by kernel_rfl) (trivial) ?_
          obtain ⟨hp3, h⟩ := chk_ok h
          obtain ⟨z1, hz1, h⟩ := lett_ok h
          obtain ⟨y2, hy2, h⟩ := call_ok h
          refine T_region [(2, { rw := some (.d (.str z1)) }), (3, { res := .tup [.d (.str y2.1), .d (.v (.int .i64 y2.2))] })] [1, 6, 7, 8, 9] [] [(1, .d (.str v1)), (6, .box [.slf 0 89, .own 5 1 (v2.map cU)]), (7, .d (.v (.int .i64 (if (5 : Int) < (v1.length : Int) then (5 : Int) else (v1.length : Int))))), (8, .d (.str y2.1)), (9, .d (.v (.int .i64 y2.2)))] [(2, (0 ≤ (0 : Int) ∧ (0 : Int) ≤ (if (5 : Int) < (v1.length : Int) then (5 : Int) else (v1.length : Int)) ∧ (if (5 : Int) < (v1.length : Int) then (5 : Int) else (v1.length : Int)) ≤ (v1.length : Int)) ∧ AV.d (.str ((v1.drop (0 : Int).toNat).take ((if (5 : Int) < (v1.length : Int) then (5 : Int) else (v1.length : Int)).toNat - (0 : Int).toNat))) = .d (.str z1)), (0, ACall Tryd.prog 208 [.d (.str z1)] [] (.tup [.d (.str y2.1), .d (.v (.int .i64 y2.2))]) [])] 5 (by kernel_rfl) (⟨⟨hp3, (by subst hz1; rfl)⟩, filter_ungroup_ok hy2⟩) ?_
          refine T_seqk ?_
          refine T_region [] [1, 6, 7, 8, 9, 29] [] [(1, .d (.str v1)), (6, .box [.slf 0 89, .own 5 1 (v2.map cU)]), (7, .d (.v (.int .i64 (if (5 : Int) < (v1.length : Int) then (5 : Int) else (v1.length : Int))))), (8, .d (.str y2.1)), (9, .d (.v (.int .i64 y2.2))), (29, .d (.v (.bool (y2.2 != (0 : Int)))))] [] 2 (by kernel_rfl) (trivial) ?_
          refine T_cond (y2.2 != (0 : Int)) (by kernel_rfl) (fun hc => ?_) (fun hc => ?_)
          · have h := cond_tt hc h
            refine T_region [] [4, 5] [] [(4, .d (.str [])), (5, .d (.v (.int .i64 y2.2)))] [] 3 (by kernel_rfl) (trivial) ?_
            obtain hs := Option.some.inj h; subst hs
            have h := callE_esc hk2
            obtain hs := Option.some.inj h; subst hs
            have h := callE_esc hk1
            obtain hs := Option.some.inj h; subst hs
            refine T_ret fun a w hm => then_ret (then_ret (inBlock_ret (then_ret (inBlock_ret (then_ret (T_return (fr' := [(4, .d (.str [])), (5, .d (.v (.int .i64 y2.2)))]) [4, 5] (by kernel_rfl) [.keep [4, 5]] (by kernel_rfl) (by kernel_rfl) (by kernel_rfl) (by show _ = _; kernel_rfl) (by exact trivial) a w hm))))))
          · have h := cond_ff hc h
            refine T_skip fun a w hm => then_norm (((?_ : T Tryd.prog e 39 _ _ _) a w hm))
            obtain ⟨y3, hy3, h⟩ := call_ok h
            refine T_region [(1, { res := .tup [.d (.v (.int .i64 y3.1)), .d (.v .nilIface)], vout := [.box [.slf 0 89, .own 5 1 (y3.2.2.map cU)]], xs := [6] })] [1, 6, 7] [] [(1, .d (.str v1)), (6, .box [.slf 0 89, .own 5 1 (y3.2.2.map cU)]), (7, .d (.v (.int .i64 (if (5 : Int) < (v1.length : Int) then (5 : Int) else (v1.length : Int)))))] [(1, ACall Tryd.prog 90 [.bp 1000000 0, .d (.str y2.1)] [.box [.slf 0 89, .own 5 1 (v2.map cU)]] (.tup [.d (.v (.int .i64 y3.1)), .d (.v .nilIface)]) [.box [.slf 0 89, .own 5 1 (y3.2.2.map cU)]])] 0 (by kernel_rfl) (strings_Builder_WriteString_ok hy3) ?_
            obtain ⟨hp4, h⟩ := chk_ok h
            obtain ⟨z2, hz2, h⟩ := lett_ok h
            obtain hs := Option.some.inj h; subst hs
            refine T_region_end [(2, { rw := some (.d (.str z2)) })] [1, 6] [] [(1, .d (.str z2)), (6, .box [.slf 0 89, .own 5 1 (y3.2.2.map cU)])] [(2, (0 ≤ (if (5 : Int) < (v1.length : Int) then (5 : Int) else (v1.length : Int)) ∧ (if (5 : Int) < (v1.length : Int) then (5 : Int) else (v1.length : Int)) ≤ (v1.length : Int) ∧ (v1.length : Int) ≤ (v1.length : Int)) ∧ AV.d (.str ((v1.drop (if (5 : Int) < (v1.length : Int) then (5 : Int) else (v1.length : Int)).toNat).take ((v1.length : Int).toNat - (if (5 : Int) < (v1.length : Int) then (5 : Int) else (v1.length : Int)).toNat))) = .d (.str z2))] 1 (by kernel_rfl) (⟨hp4, (by subst hz2; rfl)⟩) fun a w hm => then_norm (⟨_, rfl, hm.co (cs := [.keep [1, 6]]) (by show _ = _; kernel_rfl)⟩)
      · obtain ⟨v3, v4⟩ := s
        try dsimp only at h
        obtain ⟨y4, hy4, h⟩ := call_ok h
        refine T_region [(0, { res := .d (.v (.int .i64 y4.1)), vout := [.box [.slf 0 89, .own 5 1 (y4.2.map cU)]], xs := [6] })] [1, 6, 37] [] [(1, .d (.str v3)), (6, .box [.slf 0 89, .own 5 1 (y4.2.map cU)]), (37, .d (.v (.bool (decide (y4.1 > (65536 : Int))))))] [(0, ACall Tryd.prog 66 [.bp 1000000 0] [.box [.slf 0 89, .own 5 1 (v4.map cU)]] (.d (.v (.int .i64 y4.1))) [.box [.slf 0 89, .own 5 1 (y4.2.map cU)]])] 1 (by kernel_rfl) (strings_Builder_Len_ok hy4) ?_
        refine T_cond (decide (y4.1 > (65536 : Int))) (by kernel_rfl) (fun hc => ?_) (fun hc => ?_)
        · have h := cond_tt hc h
          refine T_region [] [4, 5] [] [(4, .d (.str [])), (5, .d (.v (.int .i64 (2 : Int))))] [] 2 (by kernel_rfl) (trivial) ?_
          obtain hs := Option.some.inj h; subst hs
          have h := callE_esc hk1
          obtain hs := Option.some.inj h; subst hs
          refine T_ret fun a w hm => inBlock_ret (then_ret (inBlock_ret (then_ret (T_return (fr' := [(4, .d (.str [])), (5, .d (.v (.int .i64 (2 : Int))))]) [4, 5] (by kernel_rfl) [.keep [4, 5]] (by kernel_rfl) (by kernel_rfl) (by kernel_rfl) (by show _ = _; kernel_rfl) (by exact trivial) a w hm))))
        · have h := cond_ff hc h
          refine T_skip fun a w hm => inBlock_norm (then_norm (⟨(v3, y4.2), h, hm.co (cs := [.keep [1, 6]]) (by show _ = _; kernel_rfl)⟩))
    · have h := cond_ff hc h
      obtain hs := Option.some.inj h; subst hs
      refine T_exit fun a w hm => then_exit (then_exit (inBlock_exit (then_norm (⟨_, rfl, hm.co (cs := [.keep [6]]) (by show _ = _; kernel_rfl)⟩))))
  · skip
    obtain ⟨hp5, h⟩ := chk_ok h
    refine T_region [(0, { xs := [6], vout := [.box [.slf 0 89, .junk]], res := .d (.str v5) })] [4, 5] [] [(4, .d (.str v5)), (5, .d (.v (.int .i64 (0 : Int))))] [(0, ACall Tryd.prog 67 [.bp 1000000 0] [.box [.slf 0 89, .own 5 1 (v5.map cU)]] (.d (.str v5)) [.box [.slf 0 89, .junk]])] 2 (by kernel_rfl) (b_String (l := v5) hp5 (by kernel_rfl) (by kernel_rfl)) ?_
    obtain hs := Option.some.inj h; subst hs
    refine T_ret fun a w hm => T_return (fr' := [(4, .d (.str v5)), (5, .d (.v (.int .i64 (0 : Int))))]) [4, 5] (by kernel_rfl) [.keep [4, 5]] (by kernel_rfl) (by kernel_rfl) (by kernel_rfl) (by show _ = _; kernel_rfl) (by exact trivial) a w hm

theorem I_filter_coding_decode_ok {F : Nat} {x : I_filter_coding} {a1 : List UInt8} {r : (List UInt8) × Int} (h : I_filter_coding_decode F x a1 = some r) : ICall Tryd.prog "printworks/filter.decode" [.d (.v (vI_filter_coding x)), .d (.str a1)] [] (.tup [.d (.str r.1), .d (.v (.int .i64 r.2))]) [] := by
  cases x with
  | nil => exact absurd h (by simp [I_filter_coding_decode])
  | k_runs x => exact ⟨111, _, _, 196, rfl, (fun _ h => by cases h), by kernel_rfl, filter_runs_decode_ok (a0 := x) h⟩
  | k_rows x => exact ⟨113, _, _, 199, rfl, (List.forall_mem_cons.2 ⟨rfl, fun _ h => by cases h⟩), by kernel_rfl, filter_rows_decode_ok (a0 := x) h⟩
  | k_copies x => exact ⟨114, _, _, 201, rfl, (fun _ h => by cases h), by kernel_rfl, filter_copies_decode_ok (a0 := x) h⟩
  | k_text x => exact ⟨115, _, _, 206, rfl, (fun _ h => by cases h), by kernel_rfl, filter_text_decode_ok (a0 := x) h⟩

theorem strings_Clone_ok {F : Nat} {a0 : List UInt8} {r : (List UInt8)} (h : strings_Clone F a0 = some r) : ACall Tryd.prog 57 [.d (.str a0)] [] (.d (.str r)) [] := by
  rw [strings_Clone] at h
  refine ACall.intro (N := 5) Tryd.func57 rfl rfl rfl rfl rfl fun e => ?_
  refine T_region [] [0] [] [(0, .d (.str a0))] [] 1 (by kernel_rfl) (trivial) ?_
  obtain ⟨hp1, h⟩ := chk_ok h
  refine T_region [(1, { res := .d (.str a0) })] [2] [] [(2, .d (.str a0))] [(1, ACall Tryd.prog 91 [.d (.str a0)] [] (.d (.str a0)) [])] 1 (by kernel_rfl) (b_Clone hp1) ?_
  obtain hs := Option.some.inj h; subst hs
  refine T_ret fun a w hm => T_return (fr' := [(2, .d (.str a0))]) [2] (by kernel_rfl) [.keep [2]] (by kernel_rfl) (by kernel_rfl) (by kernel_rfl) (by show _ = _; kernel_rfl) (by exact trivial) a w hm

theorem filter_Decode_ok {F : Nat} {a0 : List S_FilterStep} {a1 : List UInt8} {r : (List UInt8) × Int} (h : filter_Decode F a0 a1 = some r) : ACall Tryd.prog 16 [.d (.sl 2 (a0.map cS_FilterStep)), .d (.str a1)] [] (.tup [.d (.str r.1), .d (.v (.int .i64 r.2))]) [] := by
  rw [filter_Decode] at h
  refine ACall.intro (N := 42) Tryd.func16 rfl rfl rfl rfl rfl fun e => ?_
  refine T_region [] [0, 1] [] [(0, .d (.sl 2 (a0.map cS_FilterStep))), (1, .d (.str a1))] [] 2 (by kernel_rfl) (trivial) ?_
  refine T_seqk ?_
  obtain ⟨y3, hy1, h⟩ := call_ok h
  refine T_region [(1, { res := .d (.v (.int .i64 y3)) })] [0, 1, 6] [] [(0, .d (.sl 2 (a0.map cS_FilterStep))), (1, .d (.str a1)), (6, .d (.v (.int .i64 y3)))] [(1, ACall Tryd.prog 18 [.d (.sl 2 (a0.map cS_FilterStep))] [] (.d (.v (.int .i64 y3))) [])] 1 (by kernel_rfl) (filter_Check_ok hy1) ?_
  refine T_region [] [0, 1, 6, 12] [] [(0, .d (.sl 2 (a0.map cS_FilterStep))), (1, .d (.str a1)), (6, .d (.v (.int .i64 y3))), (12, .d (.v (.bool (y3 != (0 : Int)))))] [] 2 (by kernel_rfl) (trivial) ?_
  refine T_cond (y3 != (0 : Int)) (by kernel_rfl) (fun hc => ?_) (fun hc => ?_)
  · have h := cond_tt hc h
    refine T_region [] [4, 5] [] [(4, .d (.str [])), (5, .d (.v (.int .i64 y3)))] [] 3 (by kernel_rfl) (trivial) ?_
    obtain hs := Option.some.inj h; subst hs
    refine T_ret fun a w hm => then_ret (T_return (fr' := [(4, .d (.str [])), (5, .d (.v (.int .i64 y3)))]) [4, 5] (by kernel_rfl) [.keep [4, 5]] (by kernel_rfl) (by kernel_rfl) (by kernel_rfl) (by show _ = _; kernel_rfl) (by exact trivial) a w hm)
  · have h := cond_ff hc h
    refine T_skip fun a w hm => then_norm (((?_ : T Tryd.prog e 42 _ _ _) a w hm))
    refine T_seqk ?_
    refine T_region [] [0, 1, 16] [] [(0, .d (.sl 2 (a0.map cS_FilterStep))), (1, .d (.str a1)), (16, .d (.v (.bool (decide ((a1.length : Int) > (65536 : Int))))))] [] 3 (by kernel_rfl) (trivial) ?_
    refine T_cond (decide ((a1.length : Int) > (65536 : Int))) (by kernel_rfl) (fun hc => ?_) (fun hc => ?_)
    · have h := cond_tt hc h
      refine T_region [] [4, 5] [] [(4, .d (.str [])), (5, .d (.v (.int .i64 (2 : Int))))] [] 2 (by kernel_rfl) (trivial) ?_
      obtain hs := Option.some.inj h; subst hs
      refine T_ret fun a w hm => then_ret (T_return (fr' := [(4, .d (.str [])), (5, .d (.v (.int .i64 (2 : Int))))]) [4, 5] (by kernel_rfl) [.keep [4, 5]] (by kernel_rfl) (by kernel_rfl) (by kernel_rfl) (by show _ = _; kernel_rfl) (by exact trivial) a w hm)
    · have h := cond_ff hc h
      refine T_skip fun a w hm => then_norm (((?_ : T Tryd.prog e 42 _ _ _) a w hm))
      refine T_seqk ?_
      refine T_region [(1, { rw := some (.d (.v (.int .i64 (a0.length : Int)))) })] [0, 1, 7] [] [(0, .d (.sl 2 (a0.map cS_FilterStep))), (1, .d (.str a1)), (7, .d (.v (.int .i64 (IntKind.i64.wrap ((a0.length : Int) - (1 : Int))))))] [(1, True ∧ AV.d (.v (.int .i64 ((a0.map cS_FilterStep).length : Int))) = .d (.v (.int .i64 (a0.length : Int))))] 2 (by kernel_rfl) (len_ok cS_FilterStep) ?_
      refine T_joinEt h (fun (p : (List UInt8)) => [(1, .d (.str p))]) (fun s h hk1 => ?_) (fun v3 h => ?_)
      · refine T_co [.keep [0, 1, 7]] ((fun (p : (List UInt8) × Int) => [(0, .d (.sl 2 (a0.map cS_FilterStep))), (1, .d (.str p.1)), (7, .d (.v (.int .i64 p.2)))]) (a1, IntKind.i64.wrap ((a0.length : Int) - (1 : Int)))) (by show _ = _; kernel_rfl) ?_
        refine T_block ?_
        refine T_loopF (ι := (List UInt8) × Int) (fun (p : (List UInt8) × Int) => [(0, .d (.sl 2 (a0.map cS_FilterStep))), (1, .d (.str p.1)), (7, .d (.v (.int .i64 p.2)))]) (fun n p => filter_Decode_L0 F a0 n p.1 p.2 = some s) (fun i hh => by simp [filter_Decode_L0] at hh) (fun n p h => ?_) F (a1, IntKind.i64.wrap ((a0.length : Int) - (1 : Int))) h
        obtain ⟨v1, v2⟩ := p
        have h : filter_Decode_L0 F a0 (n + 1) v1 v2 = some s := h
        rw [filter_Decode_L0] at h
        refine T_seqk ?_
        refine T_region [] [0, 1, 7, 21] [] [(0, .d (.sl 2 (a0.map cS_FilterStep))), (1, .d (.str v1)), (7, .d (.v (.int .i64 v2))), (21, .d (.v (.bool (decide (v2 ≥ (0 : Int))))))] [] 2 (by kernel_rfl) (trivial) ?_
        refine T_cond (decide (v2 ≥ (0 : Int))) (by kernel_rfl) (fun hc => ?_) (fun hc => ?_)
        · have h := cond_tt hc h
          refine T_skip fun a w hm => then_norm (((?_ : T Tryd.prog e 42 _ _ _) a w hm))
          refine T_seqk ?_
          refine T_block ?_
          refine T_region [] [0, 1, 7] [] [(0, .d (.sl 2 (a0.map cS_FilterStep))), (1, .d (.str v1)), (7, .d (.v (.int .i64 v2)))] [] 1 (by kernel_rfl) (trivial) ?_
          obtain ⟨hp1, h⟩ := chk_ok h
          obtain ⟨y1, hy2, h⟩ := call_ok h
          obtain ⟨y2, hy3, h⟩ := call_ok h
          refine T_region [(2, { cs := cS_FilterStep (a0.getD v2.toNat (S_FilterStep.mk 0 0)) }), (4, { res := .d (.v (vI_filter_coding y1)) }), (6, { res := .tup [.d (.str y2.1), .d (.v (.int .i64 y2.2))] })] [0, 1, 7, 8] [] [(0, .d (.sl 2 (a0.map cS_FilterStep))), (1, .d (.str y2.1)), (7, .d (.v (.int .i64 v2))), (8, .d (.v (.int .i64 y2.2)))] [(2, 0 ≤ v2 ∧ (a0.map cS_FilterStep)[v2.toNat]? = some (cS_FilterStep (a0.getD v2.toNat (S_FilterStep.mk 0 0)))), (1, ACall Tryd.prog 56 [.agg (cS_FilterStep (a0.getD v2.toNat (S_FilterStep.mk 0 0)))] [] (.d (.v (vI_filter_coding y1))) []), (1, ICall Tryd.prog "printworks/filter.decode" [.d (.v (vI_filter_coding y1)), .d (.str v1)] [] (.tup [.d (.str y2.1), .d (.v (.int .i64 y2.2))]) [])] 5 (by kernel_rfl) (⟨idx_ok (d := (S_FilterStep.mk 0 0)) cS_FilterStep hp1, filter_codingOf_ok hy2, I_filter_coding_decode_ok hy3⟩) ?_
          refine T_region [] [0, 1, 7, 8, 35] [] [(0, .d (.sl 2 (a0.map cS_FilterStep))), (1, .d (.str y2.1)), (7, .d (.v (.int .i64 v2))), (8, .d (.v (.int .i64 y2.2))), (35, .d (.v (.bool (y2.2 != (0 : Int)))))] [] 2 (by kernel_rfl) (trivial) ?_
          refine T_cond (y2.2 != (0 : Int)) (by kernel_rfl) (fun hc => ?_) (fun hc => ?_)
          · have h := cond_tt hc h
            refine T_region [] [4, 5] [] [(4, .d (.str [])), (5, .d (.v (.int .i64 y2.2)))] [] 3 (by kernel_rfl) (trivial) ?_
            obtain hs := Option.some.inj h; subst hs
            have h := callE_esc hk1
            obtain hs := Option.some.inj h; subst hs
            refine T_ret fun a w hm => inBlock_ret (then_ret (then_ret (inBlock_ret (then_ret (then_ret (T_return (fr' := [(4, .d (.str [])), (5, .d (.v (.int .i64 y2.2)))]) [4, 5] (by kernel_rfl) [.keep [4, 5]] (by kernel_rfl) (by kernel_rfl) (by kernel_rfl) (by show _ = _; kernel_rfl) (by exact trivial) a w hm))))))
          · have h := cond_ff hc h
            refine T_skip fun a w hm => inBlock_norm (then_norm (((?_ : T Tryd.prog e 42 _ _ _) a w hm)))
            refine T_region_end [] [0, 1, 7] [] [(0, .d (.sl 2 (a0.map cS_FilterStep))), (1, .d (.str y2.1)), (7, .d (.v (.int .i64 (IntKind.i64.wrap (v2 - (1 : Int))))))] [] 3 (by kernel_rfl) (trivial) fun a w hm => then_norm (⟨(y2.1, IntKind.i64.wrap (v2 - (1 : Int))), h, hm.co (cs := [.keep [0, 1, 7]]) (by show _ = _; kernel_rfl)⟩)
        · have h := cond_ff hc h
          obtain hs := Option.some.inj h; subst hs
          refine T_exit fun a w hm => then_exit (then_exit (inBlock_exit (then_norm (⟨_, rfl, hm.co (cs := [.keep [1]]) (by show _ = _; kernel_rfl)⟩))))
      · skip
        refine fun a w hm => then_norm (((?_ : T Tryd.prog e 42 _ _ _) a w hm))
        refine T_seqk ?_
        refine T_region [] [1, 39] [] [(1, .d (.str v3)), (39, .d (.v (.bool (decide ((v3.length : Int) > (16384 : Int))))))] [] 3 (by kernel_rfl) (trivial) ?_
        refine T_cond (decide ((v3.length : Int) > (16384 : Int))) (by kernel_rfl) (fun hc => ?_) (fun hc => ?_)
        · have h := cond_tt hc h
          refine T_region [] [4, 5] [] [(4, .d (.str [])), (5, .d (.v (.int .i64 (2 : Int))))] [] 2 (by kernel_rfl) (trivial) ?_
          obtain hs := Option.some.inj h; subst hs
          refine T_ret fun a w hm => then_ret (T_return (fr' := [(4, .d (.str [])), (5, .d (.v (.int .i64 (2 : Int))))]) [4, 5] (by kernel_rfl) [.keep [4, 5]] (by kernel_rfl) (by kernel_rfl) (by kernel_rfl) (by show _ = _; kernel_rfl) (by exact trivial) a w hm)
        · have h := cond_ff hc h
          refine T_skip fun a w hm => then_norm (((?_ : T Tryd.prog e 42 _ _ _) a w hm))
          obtain ⟨y4, hy4, h⟩ := call_ok h
          refine T_region [(1, { res := .d (.str y4) })] [4, 5] [] [(4, .d (.str y4)), (5, .d (.v (.int .i64 (0 : Int))))] [(1, ACall Tryd.prog 57 [.d (.str v3)] [] (.d (.str y4)) [])] 2 (by kernel_rfl) (strings_Clone_ok hy4) ?_
          obtain hs := Option.some.inj h; subst hs
          refine T_ret fun a w hm => T_return (fr' := [(4, .d (.str y4)), (5, .d (.v (.int .i64 (0 : Int))))]) [4, 5] (by kernel_rfl) [.keep [4, 5]] (by kernel_rfl) (by kernel_rfl) (by kernel_rfl) (by show _ = _; kernel_rfl) (by exact trivial) a w hm

theorem filter_Sum_ok {F : Nat} {a0 : List UInt8} {r : Int} (h : filter_Sum F a0 = some r) : ACall Tryd.prog 21 [.d (.str a0)] [.glo 0 (glob_filter_steps.flatMap (cI .u32))] (.d (.v (.int .u32 r))) [.glo 0 (glob_filter_steps.flatMap (cI .u32))] := by
  rw [filter_Sum] at h
  refine ACall.intro (N := 33) Tryd.func21 rfl rfl rfl rfl rfl fun e => ?_
  refine T_region [] [0, 1000000] [] [(0, .d (.str a0)), (1000000, .glo 0 (glob_filter_steps.flatMap (cI .u32)))] [] 1 (by kernel_rfl) (trivial) ?_
  refine T_region [] [0, 3, 1000000] [] [(0, .d (.str a0)), (3, .d (.v (.int .u32 (4294967295 : Int)))), (1000000, .glo 0 (glob_filter_steps.flatMap (cI .u32)))] [] 1 (by kernel_rfl) (trivial) ?_
  refine T_seqk ?_
  refine T_region [] [0, 3, 6, 7, 1000000] [] [(0, .d (.str a0)), (3, .d (.v (.int .u32 (4294967295 : Int)))), (6, .d (.v (.int .i64 (a0.length : Int)))), (7, .d (.v (.int .i64 (0 : Int)))), (1000000, .glo 0 (glob_filter_steps.flatMap (cI .u32)))] [] 3 (by kernel_rfl) (trivial) ?_
  refine T_joinct h (fun (p : Int) => [(3, .d (.v (.int .u32 p))), (1000000, .glo 0 (glob_filter_steps.flatMap (cI .u32)))]) (fun s h => ?_) (fun v3 h => ?_)
  · refine T_co [.keep [0, 3, 6, 7, 1000000]] ((fun (p : Int × Int) => [(0, .d (.str a0)), (3, .d (.v (.int .u32 p.1))), (6, .d (.v (.int .i64 (a0.length : Int)))), (7, .d (.v (.int .i64 p.2))), (1000000, .glo 0 (glob_filter_steps.flatMap (cI .u32)))]) ((4294967295 : Int), (0 : Int))) (by show _ = _; kernel_rfl) ?_
    refine T_block ?_
    refine T_loopF (ι := Int × Int) (fun (p : Int × Int) => [(0, .d (.str a0)), (3, .d (.v (.int .u32 p.1))), (6, .d (.v (.int .i64 (a0.length : Int)))), (7, .d (.v (.int .i64 p.2))), (1000000, .glo 0 (glob_filter_steps.flatMap (cI .u32)))]) (fun n p => filter_Sum_L0 F a0 n p.1 p.2 = some s) (fun i hh => by simp [filter_Sum_L0] at hh) (fun n p h => ?_) F ((4294967295 : Int), (0 : Int)) h
    obtain ⟨v1, v2⟩ := p
    have h : filter_Sum_L0 F a0 (n + 1) v1 v2 = some s := h
    rw [filter_Sum_L0] at h
    refine T_region [] [0, 3, 6, 7, 8, 1000000] [] [(0, .d (.str a0)), (3, .d (.v (.int .u32 v1))), (6, .d (.v (.int .i64 (a0.length : Int)))), (7, .d (.v (.int .i64 v2))), (8, .d (.v (.bool (decide (v2 < (a0.length : Int)))))), (1000000, .glo 0 (glob_filter_steps.flatMap (cI .u32)))] [] 1 (by kernel_rfl) (trivial) ?_
    refine T_seqk ?_
    refine T_cond (decide (v2 < (a0.length : Int))) (by kernel_rfl) (fun hc => ?_) (fun hc => ?_)
    · have h := cond_tt hc h
      refine T_skip fun a w hm => then_norm (((?_ : T Tryd.prog e 33 _ _ _) a w hm))
      refine T_seqk ?_
      refine T_block ?_
      refine T_region [] [0, 3, 4, 6, 7, 1000000] [] [(0, .d (.str a0)), (3, .d (.v (.int .u32 v1))), (4, .d (.v (.int .i64 v2))), (6, .d (.v (.int .i64 (a0.length : Int)))), (7, .d (.v (.int .i64 v2))), (1000000, .glo 0 (glob_filter_steps.flatMap (cI .u32)))] [] 2 (by kernel_rfl) (trivial) ?_
      obtain ⟨hp1, h⟩ := chk_ok h
      obtain ⟨z1, hz1, h⟩ := lett_ok h
      refine T_region [(5, { rw := some (.d (.v (.int .u32 z1))) })] [0, 3, 6, 7, 1000000] [] [(0, .d (.str a0)), (3, .d (.v (.int .u32 z1))), (6, .d (.v (.int .i64 (a0.length : Int)))), (7, .d (.v (.int .i64 v2))), (1000000, .glo 0 (glob_filter_steps.flatMap (cI .u32)))] [(3, 0 ≤ v2 ∧ v2 < a0.length), (1, (True) ∧ AV.d (.v (.int .u32 (IntKind.u32.wrap ((BitVec.ofInt IntKind.u32.bits v1 ^^^ BitVec.ofInt IntKind.u32.bits (IntKind.u32.wrap ((a0.getD v2.toNat 0).toNat : Int))).toNat : Int)))) = .d (.v (.int .u32 z1)))] 1 (by kernel_rfl) (⟨hp1, ⟨trivial, (by subst hz1; rfl)⟩⟩) ?_
      obtain ⟨z2, hz2, h⟩ := lett_ok h
      obtain ⟨hp2, h⟩ := chk_ok h
      obtain ⟨z3, hz3, h⟩ := lett_ok h
      refine T_region [(3, { rw := some (.d (.v (.int .u32 z2))) }), (4, { rw := some (.d (.pt (((cI .u32) (glob_filter_steps.getD z2.toNat 0)) ++ ((glob_filter_steps.flatMap (cI .u32)).drop (z2.toNat * 1 + 1))))) }), (6, { rw := some (.d (.v (.int .u32 z3))) })] [0, 3, 6, 7, 1000000] [] [(0, .d (.str a0)), (3, .d (.v (.int .u32 z3))), (6, .d (.v (.int .i64 (a0.length : Int)))), (7, .d (.v (.int .i64 v2))), (1000000, .glo 0 (glob_filter_steps.flatMap (cI .u32)))] [(1, 0 ≤ (4 : Int)), (1, (True) ∧ AV.d (.v (.int .u32 (IntKind.u32.wrap ((BitVec.ofInt IntKind.u32.bits z1 &&& BitVec.ofInt IntKind.u32.bits (15 : Int)).toNat : Int)))) = .d (.v (.int .u32 z2))), (0, (0 ≤ z2 ∧ z2 < 16) ∧ AV.d (.pt ((glob_filter_steps.flatMap (cI .u32)).drop (z2.toNat * 1))) = AV.d (.pt (((cI .u32) (glob_filter_steps.getD z2.toNat 0)) ++ ((glob_filter_steps.flatMap (cI .u32)).drop (z2.toNat * 1 + 1))))), (1, (True) ∧ AV.d (.v (.int .u32 (IntKind.u32.wrap ((BitVec.ofInt IntKind.u32.bits (z1.fdiv (2 ^ (min (4 : Int).toNat IntKind.u32.bits))) ^^^ BitVec.ofInt IntKind.u32.bits (glob_filter_steps.getD z2.toNat 0)).toNat : Int)))) = .d (.v (.int .u32 z3)))] 1 (by kernel_rfl) (⟨(show 0 ≤ (4 : Int) by decide), ⟨trivial, (by subst hz2; rfl)⟩, ⟨hp2, glo_ok (cI .u32) 1 16 (by decide) (fun _ => rfl) hp2⟩, ⟨trivial, (by subst hz3; rfl)⟩⟩) ?_
      obtain ⟨z4, hz4, h⟩ := lett_ok h
      obtain ⟨hp3, h⟩ := chk_ok h
      obtain ⟨z5, hz5, h⟩ := lett_ok h
      refine T_region_end [(3, { rw := some (.d (.v (.int .u32 z4))) }), (4, { rw := some (.d (.pt (((cI .u32) (glob_filter_steps.getD z4.toNat 0)) ++ ((glob_filter_steps.flatMap (cI .u32)).drop (z4.toNat * 1 + 1))))) }), (6, { rw := some (.d (.v (.int .u32 z5))) })] [0, 3, 6, 7, 1000000] [] [(0, .d (.str a0)), (3, .d (.v (.int .u32 z5))), (6, .d (.v (.int .i64 (a0.length : Int)))), (7, .d (.v (.int .i64 v2))), (1000000, .glo 0 (glob_filter_steps.flatMap (cI .u32)))] [(1, 0 ≤ (4 : Int)), (1, (True) ∧ AV.d (.v (.int .u32 (IntKind.u32.wrap ((BitVec.ofInt IntKind.u32.bits z3 &&& BitVec.ofInt IntKind.u32.bits (15 : Int)).toNat : Int)))) = .d (.v (.int .u32 z4))), (0, (0 ≤ z4 ∧ z4 < 16) ∧ AV.d (.pt ((glob_filter_steps.flatMap (cI .u32)).drop (z4.toNat * 1))) = AV.d (.pt (((cI .u32) (glob_filter_steps.getD z4.toNat 0)) ++ ((glob_filter_steps.flatMap (cI .u32)).drop (z4.toNat * 1 + 1))))), (1, (True) ∧ AV.d (.v (.int .u32 (IntKind.u32.wrap ((BitVec.ofInt IntKind.u32.bits (z3.fdiv (2 ^ (min (4 : Int).toNat IntKind.u32.bits))) ^^^ BitVec.ofInt IntKind.u32.bits (glob_filter_steps.getD z4.toNat 0)).toNat : Int)))) = .d (.v (.int .u32 z5)))] 1 (by kernel_rfl) (⟨(show 0 ≤ (4 : Int) by decide), ⟨trivial, (by subst hz4; rfl)⟩, ⟨hp3, glo_ok (cI .u32) 1 16 (by decide) (fun _ => rfl) hp3⟩, ⟨trivial, (by subst hz5; rfl)⟩⟩) fun a w hm => inBlock_norm (then_norm (((?_ : T Tryd.prog e 33 _ _ _) a w hm)))
      refine T_region_end [] [0, 3, 6, 7, 1000000] [] [(0, .d (.str a0)), (3, .d (.v (.int .u32 z5))), (6, .d (.v (.int .i64 (a0.length : Int)))), (7, .d (.v (.int .i64 (IntKind.i64.wrap (v2 + (1 : Int)))))), (1000000, .glo 0 (glob_filter_steps.flatMap (cI .u32)))] [] 2 (by kernel_rfl) (trivial) fun a w hm => then_norm (⟨(z5, IntKind.i64.wrap (v2 + (1 : Int))), h, hm.co (cs := [.keep [0, 3, 6, 7, 1000000]]) (by show _ = _; kernel_rfl)⟩)
    · have h := cond_ff hc h
      obtain hs := Option.some.inj h; subst hs
      refine T_exit fun a w hm => then_exit (then_exit (inBlock_exit (then_norm (hm.co (cs := [.keep [3, 1000000]]) (by show _ = _; kernel_rfl)))))
  · skip
    refine fun a w hm => then_norm (((?_ : T Tryd.prog e 33 _ _ _) a w hm))
    obtain ⟨z6, hz6, h⟩ := lett_ok h
    refine T_region [(1, { rw := some (.d (.v (.int .u32 z6))) })] [2, 1000000] [] [(2, .d (.v (.int .u32 z6))), (1000000, .glo 0 (glob_filter_steps.flatMap (cI .u32)))] [(1, (True) ∧ AV.d (.v (.int .u32 (IntKind.u32.wrap (((BitVec.ofInt IntKind.u32.bits (4294967295)) ^^^ (BitVec.ofInt IntKind.u32.bits v3)).toNat : Int)))) = .d (.v (.int .u32 z6)))] 1 (by kernel_rfl) (⟨trivial, (by subst hz6; rfl)⟩) ?_
    obtain hs := Option.some.inj h; subst hs
    refine T_ret fun a w hm => T_return (fr' := [(2, .d (.v (.int .u32 z6))), (1000000, .glo 0 (glob_filter_steps.flatMap (cI .u32)))]) [2] (by kernel_rfl) [.keep [2, 1000000]] (by kernel_rfl) (by kernel_rfl) (by kernel_rfl) (by show _ = _; kernel_rfl) (by exact ⟨⟨by kernel_rfl, by kernel_rfl⟩, trivial⟩) a w hm

theorem law3_filterFact_ok {F : Nat}  {r : Bool} (h : law3_filterFact F  = some r) : ACall Tryd.prog 15 [] [.glo 0 (glob_filter_steps.flatMap (cI .u32))] (.d (.v (.bool r))) [.glo 0 (glob_filter_steps.flatMap (cI .u32))] := by
  rw [law3_filterFact] at h
  refine ACall.intro (N := 19) Tryd.func15 rfl rfl rfl rfl rfl fun e => ?_
  refine T_region [] [1000000] [] [(1000000, .glo 0 (glob_filter_steps.flatMap (cI .u32)))] [] 1 (by kernel_rfl) (trivial) ?_
  obtain ⟨y1, hy1, h⟩ := call_ok h
  refine T_region [(1, { es := some (([(S_FilterStep.mk (1 : Int) 0)]).map cS_FilterStep) }), (2, { res := .tup [.d (.str y1.1), .d (.v (.int .i64 y1.2))] })] [1, 2, 1000000] [] [(1, .d (.str y1.1)), (2, .d (.v (.int .i64 y1.2))), (1000000, .glo 0 (glob_filter_steps.flatMap (cI .u32)))] [(1, (([(S_FilterStep.mk (1 : Int) 0)]).map cS_FilterStep) = (([(S_FilterStep.mk (1 : Int) 0)]).map cS_FilterStep)), (0, ACall Tryd.prog 16 [.d (.sl 2 (([(S_FilterStep.mk (1 : Int) 0)]).map cS_FilterStep)), .d (.str ([254, 7] : List UInt8))] [] (.tup [.d (.str y1.1), .d (.v (.int .i64 y1.2))]) [])] 5 (by kernel_rfl) (⟨rfl, filter_Decode_ok hy1⟩) ?_
  obtain ⟨y2, hy2, h⟩ := call_ok h
  obtain ⟨z1, hz1, h⟩ := lett_ok h
  refine T_region [(7, { res := .d (.v (.int .u32 y2)), vout := [.glo 0 (glob_filter_steps.flatMap (cI .u32))], xs := [1000000] }), (9, { rw := some (.d (.v (.bool z1))) })] [0, 1000000] [] [(0, .d (.v (.bool z1))), (1000000, .glo 0 (glob_filter_steps.flatMap (cI .u32)))] [(3, ((((y1.2 == (0 : Int)) == true) && true) = true → True)), (0, ((((y1.2 == (0 : Int)) == true) && true) = true → True)), (2, ((((bif (y1.2 == (0 : Int)) then (y1.1 == ([7, 7, 7] : List UInt8)) else false) == true) && true) = true → ACall Tryd.prog 21 [.d (.str ([49, 50, 51, 52, 53, 54, 55, 56, 57] : List UInt8))] [.glo 0 (glob_filter_steps.flatMap (cI .u32))] (.d (.v (.int .u32 y2))) [.glo 0 (glob_filter_steps.flatMap (cI .u32))])), (0, ((((bif (y1.2 == (0 : Int)) then (y1.1 == ([7, 7, 7] : List UInt8)) else false) == true) && true) = true → True)), (0, (True) ∧ AV.d (.v (.bool (bif (bif (y1.2 == (0 : Int)) then (y1.1 == ([7, 7, 7] : List UInt8)) else false) then (y2 == (3421780262 : Int)) else false))) = .d (.v (.bool z1)))] 1 (by kernel_rfl) (⟨(fun hg => trivial), (fun hg => trivial), (fun hg => filter_Sum_ok (gcall_ok hg hy2)), (fun hg => trivial), ⟨trivial, (by subst hz1; rfl)⟩⟩) ?_
  obtain hs := Option.some.inj h; subst hs
  refine T_ret fun a w hm => T_return (fr' := [(0, .d (.v (.bool z1))), (1000000, .glo 0 (glob_filter_steps.flatMap (cI .u32)))]) [0] (by kernel_rfl) [.keep [0, 1000000]] (by kernel_rfl) (by kernel_rfl) (by kernel_rfl) (by show _ = _; kernel_rfl) (by exact ⟨⟨by kernel_rfl, by kernel_rfl⟩, trivial⟩) a w hm

theorem ref3_StepError_ok {F : Nat} {a0 : List S_FilterStep} {r : Int} (h : ref3_StepError F a0 = some r) : ACall Tryd.prog 19 [.d (.sl 2 (a0.map cS_FilterStep))] [] (.d (.v (.int .i64 r))) [] := by
  rw [ref3_StepError] at h
  refine ACall.intro (N := 44) Tryd.func19 rfl rfl rfl rfl rfl fun e => ?_
  refine T_region [] [0] [] [(0, .d (.sl 2 (a0.map cS_FilterStep)))] [] 1 (by kernel_rfl) (trivial) ?_
  refine T_seqk ?_
  refine T_region [(1, { rw := some (.d (.v (.int .i64 (a0.length : Int)))) })] [0, 7] [] [(0, .d (.sl 2 (a0.map cS_FilterStep))), (7, .d (.v (.bool (decide ((a0.length : Int) > (4 : Int))))))] [(1, True ∧ AV.d (.v (.int .i64 ((a0.map cS_FilterStep).length : Int))) = .d (.v (.int .i64 (a0.length : Int))))] 1 (by kernel_rfl) (len_ok cS_FilterStep) ?_
  refine T_cond (decide ((a0.length : Int) > (4 : Int))) (by kernel_rfl) (fun hc => ?_) (fun hc => ?_)
  · have h := cond_tt hc h
    refine T_region [] [2] [] [(2, .d (.v (.int .i64 (2 : Int))))] [] 1 (by kernel_rfl) (trivial) ?_
    obtain hs := Option.some.inj h; subst hs
    refine T_ret fun a w hm => then_ret (T_return (fr' := [(2, .d (.v (.int .i64 (2 : Int))))]) [2] (by kernel_rfl) [.keep [2]] (by kernel_rfl) (by kernel_rfl) (by kernel_rfl) (by show _ = _; kernel_rfl) (by exact trivial) a w hm)
  · have h := cond_ff hc h
    refine T_skip fun a w hm => then_norm (((?_ : T Tryd.prog e 44 _ _ _) a w hm))
    refine T_seqk ?_
    refine T_region [(1, { rw := some (.d (.v (.int .i64 (a0.length : Int)))) })] [8, 9, 10] [] [(8, .d (.sl 2 (a0.map cS_FilterStep))), (9, .d (.v (.int .i64 (a0.length : Int)))), (10, .d (.v (.int .i64 (0 : Int))))] [(1, True ∧ AV.d (.v (.int .i64 ((a0.map cS_FilterStep).length : Int))) = .d (.v (.int .i64 (a0.length : Int))))] 1 (by kernel_rfl) (len_ok cS_FilterStep) ?_
    refine T_joinEt h (fun (p : Unit) => []) (fun s h hk1 => ?_) (fun s h => ?_)
    · refine T_co [.keep [8, 9, 10]] ((fun (p : Int) => [(8, .d (.sl 2 (a0.map cS_FilterStep))), (9, .d (.v (.int .i64 (a0.length : Int)))), (10, .d (.v (.int .i64 p)))]) (0 : Int)) (by show _ = _; kernel_rfl) ?_
      refine T_block ?_
      refine T_loopF (ι := Int) (fun (p : Int) => [(8, .d (.sl 2 (a0.map cS_FilterStep))), (9, .d (.v (.int .i64 (a0.length : Int)))), (10, .d (.v (.int .i64 p)))]) (fun n p => ref3_StepError_L0 F a0 n p = some s) (fun i hh => by simp [ref3_StepError_L0] at hh) (fun n v1 h => ?_) F (0 : Int) h
      have h : ref3_StepError_L0 F a0 (n + 1) v1 = some s := h
      rw [ref3_StepError_L0] at h
      refine T_region [] [8, 9, 10, 11] [] [(8, .d (.sl 2 (a0.map cS_FilterStep))), (9, .d (.v (.int .i64 (a0.length : Int)))), (10, .d (.v (.int .i64 v1))), (11, .d (.v (.bool (decide (v1 < (a0.length : Int))))))] [] 1 (by kernel_rfl) (trivial) ?_
      refine T_seqk ?_
      refine T_cond (decide (v1 < (a0.length : Int))) (by kernel_rfl) (fun hc => ?_) (fun hc => ?_)
      · have h := cond_tt hc h
        refine T_skip fun a w hm => then_norm (((?_ : T Tryd.prog e 44 _ _ _) a w hm))
        refine T_seqk ?_
        refine T_block ?_
        obtain ⟨hp1, h⟩ := chk_ok h
        refine T_region [(0, { cs := cS_FilterStep (a0.getD v1.toNat (S_FilterStep.mk 0 0)) })] [4, 8, 9, 10] [] [(4, .box [.d (.v (.int .i64 ((a0.getD v1.toNat (S_FilterStep.mk 0 0)).f0))), .d (.v (.int .i64 ((a0.getD v1.toNat (S_FilterStep.mk 0 0)).f1)))]), (8, .d (.sl 2 (a0.map cS_FilterStep))), (9, .d (.v (.int .i64 (a0.length : Int)))), (10, .d (.v (.int .i64 v1)))] [(0, 0 ≤ v1 ∧ (a0.map cS_FilterStep)[v1.toNat]? = some (cS_FilterStep (a0.getD v1.toNat (S_FilterStep.mk 0 0))))] 3 (by kernel_rfl) (idx_ok (d := (S_FilterStep.mk 0 0)) cS_FilterStep hp1) ?_
        refine T_seqk ?_
        obtain ⟨z1, hz1, h⟩ := lett_ok h
        refine T_region [(7, { rw := some (.d (.v (.bool z1))) })] [4, 8, 9, 10, 21] [] [(4, .box [.d (.v (.int .i64 ((a0.getD v1.toNat (S_FilterStep.mk 0 0)).f0))), .d (.v (.int .i64 ((a0.getD v1.toNat (S_FilterStep.mk 0 0)).f1)))]), (8, .d (.sl 2 (a0.map cS_FilterStep))), (9, .d (.v (.int .i64 (a0.length : Int)))), (10, .d (.v (.int .i64 v1))), (21, .d (.v (.bool z1)))] [(4, ((((decide (((a0.getD v1.toNat (S_FilterStep.mk 0 0)).f0) < (1 : Int))) == false) && true) = true → True)), (0, ((((decide (((a0.getD v1.toNat (S_FilterStep.mk 0 0)).f0) < (1 : Int))) == false) && true) = true → True)), (0, ((((decide (((a0.getD v1.toNat (S_FilterStep.mk 0 0)).f0) < (1 : Int))) == false) && true) = true → True)), (0, (True) ∧ AV.d (.v (.bool (bif (decide (((a0.getD v1.toNat (S_FilterStep.mk 0 0)).f0) < (1 : Int))) then true else (decide (((a0.getD v1.toNat (S_FilterStep.mk 0 0)).f0) > (4 : Int)))))) = .d (.v (.bool z1)))] 0 (by kernel_rfl) (⟨(fun hg => trivial), (fun hg => trivial), (fun hg => trivial), ⟨trivial, (by subst hz1; rfl)⟩⟩) ?_
        refine T_cond z1 (by kernel_rfl) (fun hc => ?_) (fun hc => ?_)
        · have h := cond_tt hc h
          refine T_region [] [2] [] [(2, .d (.v (.int .i64 (14 : Int))))] [] 1 (by kernel_rfl) (trivial) ?_
          obtain hs := Option.some.inj h; subst hs
          have h := callE_esc hk1
          obtain hs := Option.some.inj h; subst hs
          refine T_ret fun a w hm => then_ret (inBlock_ret (then_ret (then_ret (inBlock_ret (then_ret (then_ret (T_return (fr' := [(2, .d (.v (.int .i64 (14 : Int))))]) [2] (by kernel_rfl) [.keep [2]] (by kernel_rfl) (by kernel_rfl) (by kernel_rfl) (by show _ = _; kernel_rfl) (by exact trivial) a w hm)))))))
        · have h := cond_ff hc h
          refine T_skip fun a w hm => then_norm (((?_ : T Tryd.prog e 44 _ _ _) a w hm))
          refine T_seqk ?_
          obtain ⟨z2, hz2, h⟩ := lett_ok h
          refine T_region [(11, { rw := some (.d (.v (.bool z2))) })] [4, 8, 9, 10, 34] [] [(4, .box [.d (.v (.int .i64 ((a0.getD v1.toNat (S_FilterStep.mk 0 0)).f0))), .d (.v (.int .i64 ((a0.getD v1.toNat (S_FilterStep.mk 0 0)).f1)))]), (8, .d (.sl 2 (a0.map cS_FilterStep))), (9, .d (.v (.int .i64 (a0.length : Int)))), (10, .d (.v (.int .i64 v1))), (34, .d (.v (.bool (bif (((a0.getD v1.toNat (S_FilterStep.mk 0 0)).f0) == (2 : Int)) then z2 else false))))] [(4, ((((((a0.getD v1.toNat (S_FilterStep.mk 0 0)).f0) == (2 : Int)) == true) && true) = true → True)), (0, ((((((a0.getD v1.toNat (S_FilterStep.mk 0 0)).f0) == (2 : Int)) == true) && true) = true → True)), (0, ((((((a0.getD v1.toNat (S_FilterStep.mk 0 0)).f0) == (2 : Int)) == true) && true) = true → True)), (0, ((((((a0.getD v1.toNat (S_FilterStep.mk 0 0)).f0) == (2 : Int)) == true) && true) = true → True)), (0, ((((decide (((a0.getD v1.toNat (S_FilterStep.mk 0 0)).f1) < (1 : Int))) == false) && (((((a0.getD v1.toNat (S_FilterStep.mk 0 0)).f0) == (2 : Int)) == true) && true)) = true → True)), (0, ((((decide (((a0.getD v1.toNat (S_FilterStep.mk 0 0)).f1) < (1 : Int))) == false) && (((((a0.getD v1.toNat (S_FilterStep.mk 0 0)).f0) == (2 : Int)) == true) && true)) = true → True)), (0, ((((decide (((a0.getD v1.toNat (S_FilterStep.mk 0 0)).f1) < (1 : Int))) == false) && (((((a0.getD v1.toNat (S_FilterStep.mk 0 0)).f0) == (2 : Int)) == true) && true)) = true → True)), (0, ((((((a0.getD v1.toNat (S_FilterStep.mk 0 0)).f0) == (2 : Int)) == true) && true) = true → (True) ∧ AV.d (.v (.bool (bif (decide (((a0.getD v1.toNat (S_FilterStep.mk 0 0)).f1) < (1 : Int))) then true else (decide (((a0.getD v1.toNat (S_FilterStep.mk 0 0)).f1) > (1024 : Int)))))) = .d (.v (.bool z2))))] 1 (by kernel_rfl) (⟨(fun hg => trivial), (fun hg => trivial), (fun hg => trivial), (fun hg => trivial), (fun hg => trivial), (fun hg => trivial), (fun hg => trivial), (fun hg => ⟨trivial, (by subst hz2; rfl)⟩)⟩) ?_
          refine T_cond (bif (((a0.getD v1.toNat (S_FilterStep.mk 0 0)).f0) == (2 : Int)) then z2 else false) (by kernel_rfl) (fun hc => ?_) (fun hc => ?_)
          · have h := cond_tt hc h
            refine T_region [] [2] [] [(2, .d (.v (.int .i64 (3 : Int))))] [] 1 (by kernel_rfl) (trivial) ?_
            obtain hs := Option.some.inj h; subst hs
            have h := callE_esc hk1
            obtain hs := Option.some.inj h; subst hs
            refine T_ret fun a w hm => then_ret (inBlock_ret (then_ret (then_ret (inBlock_ret (then_ret (then_ret (T_return (fr' := [(2, .d (.v (.int .i64 (3 : Int))))]) [2] (by kernel_rfl) [.keep [2]] (by kernel_rfl) (by kernel_rfl) (by kernel_rfl) (by show _ = _; kernel_rfl) (by exact trivial) a w hm)))))))
          · have h := cond_ff hc h
            refine T_skip fun a w hm => then_norm (((?_ : T Tryd.prog e 44 _ _ _) a w hm))
            obtain ⟨z3, hz3, h⟩ := lett_ok h
            refine T_region [(7, { rw := some (.d (.v (.bool z3))) })] [8, 9, 10, 42] [] [(8, .d (.sl 2 (a0.map cS_FilterStep))), (9, .d (.v (.int .i64 (a0.length : Int)))), (10, .d (.v (.int .i64 v1))), (42, .d (.v (.bool z3)))] [(4, ((((((a0.getD v1.toNat (S_FilterStep.mk 0 0)).f0) != (2 : Int)) == true) && true) = true → True)), (0, ((((((a0.getD v1.toNat (S_FilterStep.mk 0 0)).f0) != (2 : Int)) == true) && true) = true → True)), (0, ((((((a0.getD v1.toNat (S_FilterStep.mk 0 0)).f0) != (2 : Int)) == true) && true) = true → True)), (0, (True) ∧ AV.d (.v (.bool (bif (((a0.getD v1.toNat (S_FilterStep.mk 0 0)).f0) != (2 : Int)) then (((a0.getD v1.toNat (S_FilterStep.mk 0 0)).f1) != (0 : Int)) else false))) = .d (.v (.bool z3)))] 0 (by kernel_rfl) (⟨(fun hg => trivial), (fun hg => trivial), (fun hg => trivial), ⟨trivial, (by subst hz3; rfl)⟩⟩) ?_
            refine T_cond z3 (by kernel_rfl) (fun hc => ?_) (fun hc => ?_)
            · have h := cond_tt hc h
              refine T_region [] [2] [] [(2, .d (.v (.int .i64 (4 : Int))))] [] 1 (by kernel_rfl) (trivial) ?_
              obtain hs := Option.some.inj h; subst hs
              have h := callE_esc hk1
              obtain hs := Option.some.inj h; subst hs
              refine T_ret fun a w hm => inBlock_ret (then_ret (then_ret (inBlock_ret (then_ret (then_ret (T_return (fr' := [(2, .d (.v (.int .i64 (4 : Int))))]) [2] (by kernel_rfl) [.keep [2]] (by kernel_rfl) (by kernel_rfl) (by kernel_rfl) (by show _ = _; kernel_rfl) (by exact trivial) a w hm))))))
            · have h := cond_ff hc h
              refine T_skip fun a w hm => inBlock_norm (then_norm (((?_ : T Tryd.prog e 44 _ _ _) a w hm)))
              refine T_region_end [] [8, 9, 10] [] [(8, .d (.sl 2 (a0.map cS_FilterStep))), (9, .d (.v (.int .i64 (a0.length : Int)))), (10, .d (.v (.int .i64 (IntKind.i64.wrap (v1 + (1 : Int))))))] [] 2 (by kernel_rfl) (trivial) fun a w hm => then_norm (⟨IntKind.i64.wrap (v1 + (1 : Int)), h, hm.co (cs := [.keep [8, 9, 10]]) (by show _ = _; kernel_rfl)⟩)
      · have h := cond_ff hc h
        obtain hs := Option.some.inj h; subst hs
        refine T_exit fun a w hm => then_exit (then_exit (inBlock_exit (then_norm (⟨_, rfl, hm.co (cs := [.keep []]) (by show _ = _; kernel_rfl)⟩))))
    · skip
      refine fun a w hm => then_norm (((?_ : T Tryd.prog e 44 _ _ _) a w hm))
      refine T_region [] [2] [] [(2, .d (.v (.int .i64 (0 : Int))))] [] 1 (by kernel_rfl) (trivial) ?_
      obtain hs := Option.some.inj h; subst hs
      refine T_ret fun a w hm => T_return (fr' := [(2, .d (.v (.int .i64 (0 : Int))))]) [2] (by kernel_rfl) [.keep [2]] (by kernel_rfl) (by kernel_rfl) (by kernel_rfl) (by show _ = _; kernel_rfl) (by exact trivial) a w hm

theorem ref3_unpiece_ok {F : Nat} {a0 : List UInt8} {a1 : Bool} {r : (List UInt8) × Int} (h : ref3_unpiece F a0 a1 = some r) : ACall Tryd.prog 58 [.d (.str a0), .d (.v (.bool a1))] [] (.tup [.d (.str r.1), .d (.v (.int .i64 r.2))]) [] := by
  rw [ref3_unpiece] at h
  refine ACall.intro (N := 100) Tryd.func58 rfl rfl rfl rfl rfl fun e => ?_
  refine T_region [] [0, 1] [] [(0, .d (.str a0)), (1, .d (.v (.bool a1)))] [] 2 (by kernel_rfl) (trivial) ?_
  refine T_region [] [0, 1, 6] [] [(0, .d (.str a0)), (1, .d (.v (.bool a1))), (6, .own 5 1 ([].map cU))] [] 1 (by kernel_rfl) (trivial) ?_
  refine T_joinE h (fun (p : (List UInt8)) => [(6, .own 5 1 (p.map cU))]) (fun s h hk1 => ?_) (fun v11 h => ?_)
  · refine T_co [.keep [0, 1, 6]] ((fun (p : (List UInt8) × (List UInt8)) => [(0, .d (.str p.1)), (1, .d (.v (.bool a1))), (6, .own 5 1 (p.2.map cU))]) (a0, [])) (by show _ = _; kernel_rfl) ?_
    refine T_block ?_
    refine T_loopF (ι := (List UInt8) × (List UInt8)) (fun (p : (List UInt8) × (List UInt8)) => [(0, .d (.str p.1)), (1, .d (.v (.bool a1))), (6, .own 5 1 (p.2.map cU))]) (fun n p => ref3_unpiece_L0 F a1 n p.1 p.2 = some s) (fun i hh => by simp [ref3_unpiece_L0] at hh) (fun n p h => ?_) F (a0, []) h
    obtain ⟨v1, v2⟩ := p
    have h : ref3_unpiece_L0 F a1 (n + 1) v1 v2 = some s := h
    rw [ref3_unpiece_L0] at h
    refine T_seqk ?_
    refine T_region [] [0, 1, 6, 14] [] [(0, .d (.str v1)), (1, .d (.v (.bool a1))), (6, .own 5 1 (v2.map cU)), (14, .d (.v (.bool (!(v1 == [])))))] [] 2 (by kernel_rfl) (trivial) ?_
    refine T_cond (!(v1 == [])) (by kernel_rfl) (fun hc => ?_) (fun hc => ?_)
    · have h := cond_tt hc h
      refine T_skip fun a w hm => then_norm (((?_ : T Tryd.prog e 100 _ _ _) a w hm))
      refine T_block ?_
      obtain ⟨hp1, h⟩ := chk_ok h
      refine T_region [] [0, 1, 6, 7, 8] [] [(0, .d (.str v1)), (1, .d (.v (.bool a1))), (6, .own 5 1 (v2.map cU)), (7, .d (.v (.int .i64 (IntKind.i64.wrap ((v1.getD (0 : Int).toNat 0).toNat : Int))))), (8, .d (.v (.int .i64 (1 : Int))))] [(1, 0 ≤ (0 : Int) ∧ (0 : Int) < v1.length)] 3 (by kernel_rfl) (hp1) ?_
      refine T_joinc h (fun (p : Int) => [(0, .d (.str v1)), (1, .d (.v (.bool a1))), (6, .own 5 1 (v2.map cU)), (7, .d (.v (.int .i64 (IntKind.i64.wrap ((v1.getD (0 : Int).toNat 0).toNat : Int))))), (8, .d (.v (.int .i64 p)))]) (fun s h => ?_) (fun v5 h => ?_)
      · refine T_region [] [0, 1, 6, 7, 8, 19] [] [(0, .d (.str v1)), (1, .d (.v (.bool a1))), (6, .own 5 1 (v2.map cU)), (7, .d (.v (.int .i64 (IntKind.i64.wrap ((v1.getD (0 : Int).toNat 0).toNat : Int))))), (8, .d (.v (.int .i64 (1 : Int)))), (19, .d (.v (.bool (decide ((IntKind.i64.wrap ((v1.getD (0 : Int).toNat 0).toNat : Int)) < (128 : Int))))))] [] 2 (by kernel_rfl) (trivial) ?_
        refine T_cond (decide ((IntKind.i64.wrap ((v1.getD (0 : Int).toNat 0).toNat : Int)) < (128 : Int))) (by kernel_rfl) (fun hc => ?_) (fun hc => ?_)
        · have h := cond_tt hc h
          obtain hs := Option.some.inj h; subst hs
          refine T_region_end [] [0, 1, 6, 7, 8] [] [(0, .d (.str v1)), (1, .d (.v (.bool a1))), (6, .own 5 1 (v2.map cU)), (7, .d (.v (.int .i64 (IntKind.i64.wrap ((v1.getD (0 : Int).toNat 0).toNat : Int))))), (8, .d (.v (.int .i64 (IntKind.i64.wrap ((IntKind.i64.wrap ((v1.getD (0 : Int).toNat 0).toNat : Int)) + (1 : Int))))))] [] 3 (by kernel_rfl) (trivial) fun a w hm => then_norm (hm.co (cs := [.keep [0, 1, 6, 7, 8]]) (by show _ = _; kernel_rfl))
        · have h := cond_ff hc h
          refine T_region [] [0, 1, 6, 7, 8, 22] [] [(0, .d (.str v1)), (1, .d (.v (.bool a1))), (6, .own 5 1 (v2.map cU)), (7, .d (.v (.int .i64 (IntKind.i64.wrap ((v1.getD (0 : Int).toNat 0).toNat : Int))))), (8, .d (.v (.int .i64 (1 : Int)))), (22, .d (.v (.bool a1)))] [] 1 (by kernel_rfl) (trivial) ?_
          refine T_cond a1 (by kernel_rfl) (fun hc => ?_) (fun hc => ?_)
          · have h := cond_tt hc h
            obtain hs := Option.some.inj h; subst hs
            refine T_region_end [] [0, 1, 6, 7, 8] [] [(0, .d (.str v1)), (1, .d (.v (.bool a1))), (6, .own 5 1 (v2.map cU)), (7, .d (.v (.int .i64 (IntKind.i64.wrap ((v1.getD (0 : Int).toNat 0).toNat : Int))))), (8, .d (.v (.int .i64 (2 : Int))))] [] 1 (by kernel_rfl) (trivial) fun a w hm => then_norm (hm.co (cs := [.keep [0, 1, 6, 7, 8]]) (by show _ = _; kernel_rfl))
          · have h := cond_ff hc h
            obtain hs := Option.some.inj h; subst hs
            refine T_skip fun a w hm => then_norm (hm.co (cs := [.keep [0, 1, 6, 7, 8]]) (by show _ = _; kernel_rfl))
      · skip
        refine T_seqk ?_
        obtain ⟨z6, hz1, h⟩ := lett_ok h
        refine T_region [(5, { rw := some (.d (.v (.bool z6))) })] [0, 1, 6, 7, 8, 28] [] [(0, .d (.str v1)), (1, .d (.v (.bool a1))), (6, .own 5 1 (v2.map cU)), (7, .d (.v (.int .i64 (IntKind.i64.wrap ((v1.getD (0 : Int).toNat 0).toNat : Int))))), (8, .d (.v (.int .i64 v5))), (28, .d (.v (.bool z6)))] [(3, (((((IntKind.i64.wrap ((v1.getD (0 : Int).toNat 0).toNat : Int)) == (128 : Int)) == true) && true) = true → True)), (0, (((((IntKind.i64.wrap ((v1.getD (0 : Int).toNat 0).toNat : Int)) == (128 : Int)) == true) && true) = true → True)), (0, (True) ∧ AV.d (.v (.bool (bif ((IntKind.i64.wrap ((v1.getD (0 : Int).toNat 0).toNat : Int)) == (128 : Int)) then (!a1) else false))) = .d (.v (.bool z6)))] 0 (by kernel_rfl) (⟨(fun hg => trivial), (fun hg => trivial), ⟨trivial, (by subst hz1; rfl)⟩⟩) ?_
        refine T_cond z6 (by kernel_rfl) (fun hc => ?_) (fun hc => ?_)
        · have h := cond_tt hc h
          refine T_region [] [4, 5] [] [(4, .d (.str [])), (5, .d (.v (.int .i64 (5 : Int))))] [] 2 (by kernel_rfl) (trivial) ?_
          obtain hs := Option.some.inj h; subst hs
          have h := callE_esc hk1
          obtain hs := Option.some.inj h; subst hs
          refine T_ret fun a w hm => then_ret (inBlock_ret (then_ret (inBlock_ret (then_ret (T_return (fr' := [(4, .d (.str [])), (5, .d (.v (.int .i64 (5 : Int))))]) [4, 5] (by kernel_rfl) [.keep [4, 5]] (by kernel_rfl) (by kernel_rfl) (by kernel_rfl) (by show _ = _; kernel_rfl) (by exact trivial) a w hm)))))
        · have h := cond_ff hc h
          refine T_skip fun a w hm => then_norm (((?_ : T Tryd.prog e 100 _ _ _) a w hm))
          refine T_seqk ?_
          refine T_region [] [0, 1, 6, 7, 8, 33] [] [(0, .d (.str v1)), (1, .d (.v (.bool a1))), (6, .own 5 1 (v2.map cU)), (7, .d (.v (.int .i64 (IntKind.i64.wrap ((v1.getD (0 : Int).toNat 0).toNat : Int))))), (8, .d (.v (.int .i64 v5))), (33, .d (.v (.bool (decide ((v1.length : Int) < (IntKind.i64.wrap (v5 + (1 : Int))))))))] [] 5 (by kernel_rfl) (trivial) ?_
          refine T_cond (decide ((v1.length : Int) < (IntKind.i64.wrap (v5 + (1 : Int))))) (by kernel_rfl) (fun hc => ?_) (fun hc => ?_)
          · have h := cond_tt hc h
            refine T_region [] [4, 5] [] [(4, .d (.str [])), (5, .d (.v (.int .i64 (12 : Int))))] [] 2 (by kernel_rfl) (trivial) ?_
            obtain hs := Option.some.inj h; subst hs
            have h := callE_esc hk1
            obtain hs := Option.some.inj h; subst hs
            refine T_ret fun a w hm => then_ret (inBlock_ret (then_ret (inBlock_ret (then_ret (T_return (fr' := [(4, .d (.str [])), (5, .d (.v (.int .i64 (12 : Int))))]) [4, 5] (by kernel_rfl) [.keep [4, 5]] (by kernel_rfl) (by kernel_rfl) (by kernel_rfl) (by show _ = _; kernel_rfl) (by exact trivial) a w hm)))))
          · have h := cond_ff hc h
            refine T_skip fun a w hm => then_norm (((?_ : T Tryd.prog e 100 _ _ _) a w hm))
            obtain ⟨hp2, h⟩ := chk_ok h
            refine T_region [] [0, 1, 6, 7, 8, 9] [] [(0, .d (.str v1)), (1, .d (.v (.bool a1))), (6, .own 5 1 (v2.map cU)), (7, .d (.v (.int .i64 (IntKind.i64.wrap ((v1.getD (0 : Int).toNat 0).toNat : Int))))), (8, .d (.v (.int .i64 v5))), (9, .d (.str ((v1.drop (1 : Int).toNat).take ((IntKind.i64.wrap (v5 + (1 : Int))).toNat - (1 : Int).toNat))))] [(3, 0 ≤ (1 : Int) ∧ (1 : Int) ≤ (IntKind.i64.wrap (v5 + (1 : Int))) ∧ (IntKind.i64.wrap (v5 + (1 : Int))) ≤ (v1.length : Int))] 1 (by kernel_rfl) (hp2) ?_
            obtain ⟨hp3, h⟩ := chk_ok h
            obtain ⟨z7, hz2, h⟩ := lett_ok h
            refine T_region [(3, { rw := some (.d (.str z7)) })] [0, 1, 6, 7, 9] [] [(0, .d (.str z7)), (1, .d (.v (.bool a1))), (6, .own 5 1 (v2.map cU)), (7, .d (.v (.int .i64 (IntKind.i64.wrap ((v1.getD (0 : Int).toNat 0).toNat : Int))))), (9, .d (.str ((v1.drop (1 : Int).toNat).take ((IntKind.i64.wrap (v5 + (1 : Int))).toNat - (1 : Int).toNat))))] [(3, (0 ≤ (IntKind.i64.wrap (v5 + (1 : Int))) ∧ (IntKind.i64.wrap (v5 + (1 : Int))) ≤ (v1.length : Int) ∧ (v1.length : Int) ≤ (v1.length : Int)) ∧ AV.d (.str ((v1.drop (IntKind.i64.wrap (v5 + (1 : Int))).toNat).take ((v1.length : Int).toNat - (IntKind.i64.wrap (v5 + (1 : Int))).toNat))) = .d (.str z7))] 1 (by kernel_rfl) (⟨hp3, (by subst hz2; rfl)⟩) ?_
            refine T_joinE h (fun (p : (List UInt8)) => [(0, .d (.str z7)), (1, .d (.v (.bool a1))), (6, .own 5 1 (p.map cU))]) (fun s h hk2 => ?_) (fun v10 h => ?_)
            · refine T_block ?_
              refine T_region [] [0, 1, 6, 7, 9, 52] [] [(0, .d (.str z7)), (1, .d (.v (.bool a1))), (6, .own 5 1 (v2.map cU)), (7, .d (.v (.int .i64 (IntKind.i64.wrap ((v1.getD (0 : Int).toNat 0).toNat : Int))))), (9, .d (.str ((v1.drop (1 : Int).toNat).take ((IntKind.i64.wrap (v5 + (1 : Int))).toNat - (1 : Int).toNat)))), (52, .d (.v (.bool (decide ((IntKind.i64.wrap ((v1.getD (0 : Int).toNat 0).toNat : Int)) < (128 : Int))))))] [] 3 (by kernel_rfl) (trivial) ?_
              refine T_cond (decide ((IntKind.i64.wrap ((v1.getD (0 : Int).toNat 0).toNat : Int)) < (128 : Int))) (by kernel_rfl) (fun hc => ?_) (fun hc => ?_)
              · have h := cond_tt hc h
                obtain ⟨hp4, h⟩ := chk_ok h
                obtain ⟨l1, hl1, h⟩ := lett_ok h
                obtain hs := Option.some.inj h; subst hs
                refine T_region_end [(2, { es := some (l1.map cU) })] [0, 1, 6] [] [(0, .d (.str z7)), (1, .d (.v (.bool a1))), (6, .own 5 1 (l1.map cU))] [(2, (v2.map cU).length + (((v1.drop (1 : Int).toNat).take ((IntKind.i64.wrap (v5 + (1 : Int))).toNat - (1 : Int).toNat)).map cU).length ≤ 4294967296 ∧ (v2.map cU) ++ (((v1.drop (1 : Int).toNat).take ((IntKind.i64.wrap (v5 + (1 : Int))).toNat - (1 : Int).toNat)).map cU) = (l1.map cU))] 1 (by kernel_rfl) (and_trans (app_ok cU hp4) (by subst hl1; rfl)) fun a w hm => inBlock_norm (then_norm (⟨_, rfl, hm.co (cs := [.keep [0, 1, 6]]) (by show _ = _; kernel_rfl)⟩))
              · have h := cond_ff hc h
                refine T_region [] [0, 1, 6, 7, 9, 58] [] [(0, .d (.str z7)), (1, .d (.v (.bool a1))), (6, .own 5 1 (v2.map cU)), (7, .d (.v (.int .i64 (IntKind.i64.wrap ((v1.getD (0 : Int).toNat 0).toNat : Int))))), (9, .d (.str ((v1.drop (1 : Int).toNat).take ((IntKind.i64.wrap (v5 + (1 : Int))).toNat - (1 : Int).toNat)))), (58, .d (.v (.bool a1)))] [] 2 (by kernel_rfl) (trivial) ?_
                refine T_cond a1 (by kernel_rfl) (fun hc => ?_) (fun hc => ?_)
                · have h := cond_tt hc h
                  obtain ⟨hp5, h⟩ := chk_ok h
                  obtain ⟨z8, hz3, h⟩ := lett_ok h
                  obtain ⟨hp6, h⟩ := chk_ok h
                  obtain ⟨z9, hz4, h⟩ := lett_ok h
                  obtain ⟨z1, hz5, h⟩ := lett_ok h
                  refine T_draw mixed [(1, { rw := some (.d (.v (.int .u8 z8))) }), (5, { rw := some (.d (.v (.int .u8 z9))) }), (7, { rw := some (.d (.v (.int .i64 z1))) })] [0, 1, 6, 7, 10] [] [(0, .d (.str z7)), (1, .d (.v (.bool a1))), (6, .own 5 1 (v2.map cU)), (7, .d (.v (.int .i64 (IntKind.i64.wrap ((v1.getD (0 : Int).toNat 0).toNat : Int))))), (10, .d (.v (.int .i64 z1)))] [(1, (0 ≤ (0 : Int) ∧ (0 : Int) < ((v1.drop (1 : Int).toNat).take ((IntKind.i64.wrap (v5 + (1 : Int))).toNat - (1 : Int).toNat)).length) ∧ AV.d (.v (.int .u8 ((((v1.drop (1 : Int).toNat).take ((IntKind.i64.wrap (v5 + (1 : Int))).toNat - (1 : Int).toNat)).getD (0 : Int).toNat 0).toNat : Int))) = .d (.v (.int .u8 z8))), (3, (0 ≤ (1 : Int) ∧ (1 : Int) < ((v1.drop (1 : Int).toNat).take ((IntKind.i64.wrap (v5 + (1 : Int))).toNat - (1 : Int).toNat)).length) ∧ AV.d (.v (.int .u8 ((((v1.drop (1 : Int).toNat).take ((IntKind.i64.wrap (v5 + (1 : Int))).toNat - (1 : Int).toNat)).getD (1 : Int).toNat 0).toNat : Int))) = .d (.v (.int .u8 z9))), (1, (True) ∧ AV.d (.v (.int .i64 (IntKind.i64.wrap ((IntKind.i64.wrap ((IntKind.i64.wrap z8) * (256 : Int))) + (IntKind.i64.wrap z9))))) = .d (.v (.int .i64 z1)))] 1 (by kernel_rfl) (⟨⟨hp5, (by subst hz3; rfl)⟩, ⟨hp6, (by subst hz4; rfl)⟩, ⟨trivial, (by subst hz5; rfl)⟩⟩) ?_
                  refine T_seqk ?_
                  refine T_region [(5, { rw := some (.d (.v (.int .i64 (v2.length : Int)))) })] [0, 1, 6, 7, 10, 75] [] [(0, .d (.str z7)), (1, .d (.v (.bool a1))), (6, .own 5 1 (v2.map cU)), (7, .d (.v (.int .i64 (IntKind.i64.wrap ((v1.getD (0 : Int).toNat 0).toNat : Int))))), (10, .d (.v (.int .i64 z1))), (75, .d (.v (.bool (bif (z1 == (0 : Int)) then true else (decide (z1 > (v2.length : Int)))))))] [(3, ((((z1 == (0 : Int)) == false) && true) = true → True)), (0, ((((z1 == (0 : Int)) == false) && true) = true → True)), (0, ((((z1 == (0 : Int)) == false) && true) = true → True ∧ AV.d (.v (.int .i64 ((v2.map cU).length : Int))) = .d (.v (.int .i64 (v2.length : Int))))), (0, ((((z1 == (0 : Int)) == false) && true) = true → True))] 1 (by kernel_rfl) (⟨(fun hg => trivial), (fun hg => trivial), (fun hg => len_ok cU), (fun hg => trivial)⟩) ?_
                  refine T_cond (bif (z1 == (0 : Int)) then true else (decide (z1 > (v2.length : Int)))) (by kernel_rfl) (fun hc => ?_) (fun hc => ?_)
                  · have h := cond_tt hc h
                    refine T_region [] [4, 5] [] [(4, .d (.str [])), (5, .d (.v (.int .i64 (3 : Int))))] [] 2 (by kernel_rfl) (trivial) ?_
                    obtain hs := Option.some.inj h; subst hs
                    have h := callE_esc hk2
                    obtain hs := Option.some.inj h; subst hs
                    have h := callE_esc hk1
                    obtain hs := Option.some.inj h; subst hs
                    refine T_ret fun a w hm => then_ret (inBlock_ret (then_ret (inBlock_ret (then_ret (inBlock_ret (then_ret (T_return (fr' := [(4, .d (.str [])), (5, .d (.v (.int .i64 (3 : Int))))]) [4, 5] (by kernel_rfl) [.keep [4, 5]] (by kernel_rfl) (by kernel_rfl) (by kernel_rfl) (by show _ = _; kernel_rfl) (by exact trivial) a w hm)))))))
                  · have h := cond_ff hc h
                    refine T_skip fun a w hm => then_norm (((?_ : T Tryd.prog e 100 _ _ _) a w hm))
                    refine T_region [(1, { rw := some (.d (.v (.int .i64 (v2.length : Int)))) })] [0, 1, 6, 7, 11] [] [(0, .d (.str z7)), (1, .d (.v (.bool a1))), (6, .own 5 1 (v2.map cU)), (7, .d (.v (.int .i64 (IntKind.i64.wrap ((v1.getD (0 : Int).toNat 0).toNat : Int))))), (11, .d (.v (.int .i64 (IntKind.i64.wrap ((v2.length : Int) - z1)))))] [(1, True ∧ AV.d (.v (.int .i64 ((v2.map cU).length : Int))) = .d (.v (.int .i64 (v2.length : Int))))] 3 (by kernel_rfl) (len_ok cU) ?_
                    refine T_region [] [0, 1, 6, 11, 81, 82] [] [(0, .d (.str z7)), (1, .d (.v (.bool a1))), (6, .own 5 1 (v2.map cU)), (11, .d (.v (.int .i64 (IntKind.i64.wrap ((v2.length : Int) - z1))))), (81, .d (.v (.int .i64 (IntKind.i64.wrap ((IntKind.i64.wrap ((v1.getD (0 : Int).toNat 0).toNat : Int)) - (125 : Int)))))), (82, .d (.v (.int .i64 (0 : Int))))] [] 3 (by kernel_rfl) (trivial) ?_
                    refine T_joinct h (fun (p : (List UInt8)) => [(0, .d (.str z7)), (1, .d (.v (.bool a1))), (6, .own 5 1 (p.map cU))]) (fun s h => ?_) (fun v8 h => ?_)
                    · refine T_co [.keep [0, 1, 6, 11, 81, 82]] ((fun (p : (List UInt8) × Int) => [(0, .d (.str z7)), (1, .d (.v (.bool a1))), (6, .own 5 1 (p.1.map cU)), (11, .d (.v (.int .i64 (IntKind.i64.wrap ((v2.length : Int) - z1))))), (81, .d (.v (.int .i64 (IntKind.i64.wrap ((IntKind.i64.wrap ((v1.getD (0 : Int).toNat 0).toNat : Int)) - (125 : Int)))))), (82, .d (.v (.int .i64 p.2)))]) (v2, (0 : Int))) (by show _ = _; kernel_rfl) ?_
                      refine T_block ?_
                      refine T_loopF (ι := (List UInt8) × Int) (fun (p : (List UInt8) × Int) => [(0, .d (.str z7)), (1, .d (.v (.bool a1))), (6, .own 5 1 (p.1.map cU)), (11, .d (.v (.int .i64 (IntKind.i64.wrap ((v2.length : Int) - z1))))), (81, .d (.v (.int .i64 (IntKind.i64.wrap ((IntKind.i64.wrap ((v1.getD (0 : Int).toNat 0).toNat : Int)) - (125 : Int)))))), (82, .d (.v (.int .i64 p.2)))]) (fun n p => ref3_unpiece_L5 F v1 v2 z1 n p.1 p.2 = some s) (fun i hh => by simp [ref3_unpiece_L5] at hh) (fun n p h => ?_) F (v2, (0 : Int)) h
                      obtain ⟨v3, v4⟩ := p
                      have h : ref3_unpiece_L5 F v1 v2 z1 (n + 1) v3 v4 = some s := h
                      rw [ref3_unpiece_L5] at h
                      obtain ⟨z2, hz6, h⟩ := lett_ok h
                      refine T_region [(0, { rw := some (.d (.v (.bool z2))) })] [0, 1, 6, 11, 81, 82, 83] [] [(0, .d (.str z7)), (1, .d (.v (.bool a1))), (6, .own 5 1 (v3.map cU)), (11, .d (.v (.int .i64 (IntKind.i64.wrap ((v2.length : Int) - z1))))), (81, .d (.v (.int .i64 (IntKind.i64.wrap ((IntKind.i64.wrap ((v1.getD (0 : Int).toNat 0).toNat : Int)) - (125 : Int)))))), (82, .d (.v (.int .i64 v4))), (83, .d (.v (.bool z2)))] [(0, (True) ∧ AV.d (.v (.bool (decide (v4 < (IntKind.i64.wrap ((IntKind.i64.wrap ((v1.getD (0 : Int).toNat 0).toNat : Int)) - (125 : Int))))))) = .d (.v (.bool z2)))] 0 (by kernel_rfl) (⟨trivial, (by subst hz6; rfl)⟩) ?_
                      refine T_seqk ?_
                      refine T_cond z2 (by kernel_rfl) (fun hc => ?_) (fun hc => ?_)
                      · have h := cond_tt hc h
                        refine T_skip fun a w hm => then_norm (((?_ : T Tryd.prog e 100 _ _ _) a w hm))
                        refine T_seqk ?_
                        refine T_block ?_
                        refine T_region [] [0, 1, 6, 11, 12, 81, 82] [] [(0, .d (.str z7)), (1, .d (.v (.bool a1))), (6, .own 5 1 (v3.map cU)), (11, .d (.v (.int .i64 (IntKind.i64.wrap ((v2.length : Int) - z1))))), (12, .d (.v (.int .i64 v4))), (81, .d (.v (.int .i64 (IntKind.i64.wrap ((IntKind.i64.wrap ((v1.getD (0 : Int).toNat 0).toNat : Int)) - (125 : Int)))))), (82, .d (.v (.int .i64 v4)))] [] 2 (by kernel_rfl) (trivial) ?_
                        obtain ⟨hp7, h⟩ := chk_ok h
                        obtain ⟨z3, hz7, h⟩ := lett_ok h
                        obtain ⟨hp8, h⟩ := chk_ok h
                        obtain ⟨hp9, h⟩ := chk_ok h
                        refine T_region_end [(6, { cs := cU (v3.getD (IntKind.i64.wrap ((IntKind.i64.wrap ((v2.length : Int) - z1)) + v4)).toNat 0), rw := some (.d (.v (.int .u8 z3))) }), (7, { es := some (([(UInt8.ofNat z3.toNat)]).map cU) }), (8, { es := some ((v3 ++ ([(UInt8.ofNat z3.toNat)])).map cU) })] [0, 1, 6, 11, 81, 82] [] [(0, .d (.str z7)), (1, .d (.v (.bool a1))), (6, .own 5 1 ((v3 ++ ([(UInt8.ofNat z3.toNat)])).map cU)), (11, .d (.v (.int .i64 (IntKind.i64.wrap ((v2.length : Int) - z1))))), (81, .d (.v (.int .i64 (IntKind.i64.wrap ((IntKind.i64.wrap ((v1.getD (0 : Int).toNat 0).toNat : Int)) - (125 : Int)))))), (82, .d (.v (.int .i64 v4)))] [(5, 0 ≤ (IntKind.i64.wrap ((IntKind.i64.wrap ((v2.length : Int) - z1)) + v4)) ∧ (IntKind.i64.wrap ((IntKind.i64.wrap ((v2.length : Int) - z1)) + v4)) < (v3.map cU).length), (0, ((v3.map cU)[(IntKind.i64.wrap ((IntKind.i64.wrap ((v2.length : Int) - z1)) + v4)).toNat]? = some (cU (v3.getD (IntKind.i64.wrap ((IntKind.i64.wrap ((v2.length : Int) - z1)) + v4)).toNat 0))) ∧ AV.d (.v (.int .u8 ((v3.getD (IntKind.i64.wrap ((IntKind.i64.wrap ((v2.length : Int) - z1)) + v4)).toNat 0).toNat : Int))) = .d (.v (.int .u8 z3))), (0, [[Dat.v (.int .u8 z3)]] = (([(UInt8.ofNat z3.toNat)]).map cU)), (0, (v3.map cU).length + (([(UInt8.ofNat z3.toNat)]).map cU).length ≤ 4294967296 ∧ (v3.map cU) ++ (([(UInt8.ofNat z3.toNat)]).map cU) = ((v3 ++ ([(UInt8.ofNat z3.toNat)])).map cU))] 1 (by kernel_rfl) (⟨own_idx cU hp7, ⟨(idx_ok (d := 0) cU hp7).2, (by subst hz7; rfl)⟩, (lit_u hp8 rfl), app_ok cU hp9⟩) fun a w hm => inBlock_norm (then_norm (((?_ : T Tryd.prog e 100 _ _ _) a w hm)))
                        refine T_region_end [] [0, 1, 6, 11, 81, 82] [] [(0, .d (.str z7)), (1, .d (.v (.bool a1))), (6, .own 5 1 ((v3 ++ ([(UInt8.ofNat z3.toNat)])).map cU)), (11, .d (.v (.int .i64 (IntKind.i64.wrap ((v2.length : Int) - z1))))), (81, .d (.v (.int .i64 (IntKind.i64.wrap ((IntKind.i64.wrap ((v1.getD (0 : Int).toNat 0).toNat : Int)) - (125 : Int)))))), (82, .d (.v (.int .i64 (IntKind.i64.wrap (v4 + (1 : Int))))))] [] 2 (by kernel_rfl) (trivial) fun a w hm => then_norm (⟨((v3 ++ ([(UInt8.ofNat z3.toNat)])), IntKind.i64.wrap (v4 + (1 : Int))), h, hm.co (cs := [.keep [0, 1, 6, 11, 81, 82]]) (by show _ = _; kernel_rfl)⟩)
                      · have h := cond_ff hc h
                        obtain hs := Option.some.inj h; subst hs
                        refine T_exit fun a w hm => then_exit (then_exit (inBlock_exit (then_norm (hm.co (cs := [.keep [0, 1, 6]]) (by show _ = _; kernel_rfl)))))
                    · skip
                      obtain hs := Option.some.inj h; subst hs
                      refine fun a w hm => inBlock_norm (then_norm (⟨_, rfl, hm.co (cs := [.keep [0, 1, 6]]) (by show _ = _; kernel_rfl)⟩))
                · have h := cond_ff hc h
                  refine T_region [] [0, 1, 6, 9, 43, 44] [] [(0, .d (.str z7)), (1, .d (.v (.bool a1))), (6, .own 5 1 (v2.map cU)), (9, .d (.str ((v1.drop (1 : Int).toNat).take ((IntKind.i64.wrap (v5 + (1 : Int))).toNat - (1 : Int).toNat)))), (43, .d (.v (.int .i64 (IntKind.i64.wrap ((257 : Int) - (IntKind.i64.wrap ((v1.getD (0 : Int).toNat 0).toNat : Int))))))), (44, .d (.v (.int .i64 (0 : Int))))] [] 3 (by kernel_rfl) (trivial) ?_
                  refine T_joinct h (fun (p : (List UInt8)) => [(0, .d (.str z7)), (1, .d (.v (.bool a1))), (6, .own 5 1 (p.map cU))]) (fun s h => ?_) (fun v9 h => ?_)
                  · refine T_co [.keep [0, 1, 6, 9, 43, 44]] ((fun (p : (List UInt8) × Int) => [(0, .d (.str z7)), (1, .d (.v (.bool a1))), (6, .own 5 1 (p.1.map cU)), (9, .d (.str ((v1.drop (1 : Int).toNat).take ((IntKind.i64.wrap (v5 + (1 : Int))).toNat - (1 : Int).toNat)))), (43, .d (.v (.int .i64 (IntKind.i64.wrap ((257 : Int) - (IntKind.i64.wrap ((v1.getD (0 : Int).toNat 0).toNat : Int))))))), (44, .d (.v (.int .i64 p.2)))]) (v2, (0 : Int))) (by show _ = _; kernel_rfl) ?_
                    refine T_block ?_
                    refine T_loopF (ι := (List UInt8) × Int) (fun (p : (List UInt8) × Int) => [(0, .d (.str z7)), (1, .d (.v (.bool a1))), (6, .own 5 1 (p.1.map cU)), (9, .d (.str ((v1.drop (1 : Int).toNat).take ((IntKind.i64.wrap (v5 + (1 : Int))).toNat - (1 : Int).toNat)))), (43, .d (.v (.int .i64 (IntKind.i64.wrap ((257 : Int) - (IntKind.i64.wrap ((v1.getD (0 : Int).toNat 0).toNat : Int))))))), (44, .d (.v (.int .i64 p.2)))]) (fun n p => ref3_unpiece_L3 F v1 v5 n p.1 p.2 = some s) (fun i hh => by simp [ref3_unpiece_L3] at hh) (fun n p h => ?_) F (v2, (0 : Int)) h
                    obtain ⟨v6, v7⟩ := p
                    have h : ref3_unpiece_L3 F v1 v5 (n + 1) v6 v7 = some s := h
                    rw [ref3_unpiece_L3] at h
                    obtain ⟨z4, hz8, h⟩ := lett_ok h
                    refine T_region [(0, { rw := some (.d (.v (.bool z4))) })] [0, 1, 6, 9, 43, 44, 45] [] [(0, .d (.str z7)), (1, .d (.v (.bool a1))), (6, .own 5 1 (v6.map cU)), (9, .d (.str ((v1.drop (1 : Int).toNat).take ((IntKind.i64.wrap (v5 + (1 : Int))).toNat - (1 : Int).toNat)))), (43, .d (.v (.int .i64 (IntKind.i64.wrap ((257 : Int) - (IntKind.i64.wrap ((v1.getD (0 : Int).toNat 0).toNat : Int))))))), (44, .d (.v (.int .i64 v7))), (45, .d (.v (.bool z4)))] [(0, (True) ∧ AV.d (.v (.bool (decide (v7 < (IntKind.i64.wrap ((257 : Int) - (IntKind.i64.wrap ((v1.getD (0 : Int).toNat 0).toNat : Int)))))))) = .d (.v (.bool z4)))] 0 (by kernel_rfl) (⟨trivial, (by subst hz8; rfl)⟩) ?_
                    refine T_seqk ?_
                    refine T_cond z4 (by kernel_rfl) (fun hc => ?_) (fun hc => ?_)
                    · have h := cond_tt hc h
                      refine T_skip fun a w hm => then_norm (((?_ : T Tryd.prog e 100 _ _ _) a w hm))
                      refine T_seqk ?_
                      refine T_block ?_
                      obtain ⟨hp10, h⟩ := chk_ok h
                      obtain ⟨z5, hz9, h⟩ := lett_ok h
                      obtain ⟨hp11, h⟩ := chk_ok h
                      obtain ⟨hp12, h⟩ := chk_ok h
                      refine T_region_end [(2, { rw := some (.d (.v (.int .u8 z5))) }), (3, { es := some (([(UInt8.ofNat z5.toNat)]).map cU) }), (4, { es := some ((v6 ++ ([(UInt8.ofNat z5.toNat)])).map cU) })] [0, 1, 6, 9, 43, 44] [] [(0, .d (.str z7)), (1, .d (.v (.bool a1))), (6, .own 5 1 ((v6 ++ ([(UInt8.ofNat z5.toNat)])).map cU)), (9, .d (.str ((v1.drop (1 : Int).toNat).take ((IntKind.i64.wrap (v5 + (1 : Int))).toNat - (1 : Int).toNat)))), (43, .d (.v (.int .i64 (IntKind.i64.wrap ((257 : Int) - (IntKind.i64.wrap ((v1.getD (0 : Int).toNat 0).toNat : Int))))))), (44, .d (.v (.int .i64 v7)))] [(2, (0 ≤ (0 : Int) ∧ (0 : Int) < ((v1.drop (1 : Int).toNat).take ((IntKind.i64.wrap (v5 + (1 : Int))).toNat - (1 : Int).toNat)).length) ∧ AV.d (.v (.int .u8 ((((v1.drop (1 : Int).toNat).take ((IntKind.i64.wrap (v5 + (1 : Int))).toNat - (1 : Int).toNat)).getD (0 : Int).toNat 0).toNat : Int))) = .d (.v (.int .u8 z5))), (0, [[Dat.v (.int .u8 z5)]] = (([(UInt8.ofNat z5.toNat)]).map cU)), (0, (v6.map cU).length + (([(UInt8.ofNat z5.toNat)]).map cU).length ≤ 4294967296 ∧ (v6.map cU) ++ (([(UInt8.ofNat z5.toNat)]).map cU) = ((v6 ++ ([(UInt8.ofNat z5.toNat)])).map cU))] 1 (by kernel_rfl) (⟨⟨hp10, (by subst hz9; rfl)⟩, (lit_u hp11 rfl), app_ok cU hp12⟩) fun a w hm => inBlock_norm (then_norm (((?_ : T Tryd.prog e 100 _ _ _) a w hm)))
                      refine T_region_end [] [0, 1, 6, 9, 43, 44] [] [(0, .d (.str z7)), (1, .d (.v (.bool a1))), (6, .own 5 1 ((v6 ++ ([(UInt8.ofNat z5.toNat)])).map cU)), (9, .d (.str ((v1.drop (1 : Int).toNat).take ((IntKind.i64.wrap (v5 + (1 : Int))).toNat - (1 : Int).toNat)))), (43, .d (.v (.int .i64 (IntKind.i64.wrap ((257 : Int) - (IntKind.i64.wrap ((v1.getD (0 : Int).toNat 0).toNat : Int))))))), (44, .d (.v (.int .i64 (IntKind.i64.wrap (v7 + (1 : Int))))))] [] 2 (by kernel_rfl) (trivial) fun a w hm => then_norm (⟨((v6 ++ ([(UInt8.ofNat z5.toNat)])), IntKind.i64.wrap (v7 + (1 : Int))), h, hm.co (cs := [.keep [0, 1, 6, 9, 43, 44]]) (by show _ = _; kernel_rfl)⟩)
                    · have h := cond_ff hc h
                      obtain hs := Option.some.inj h; subst hs
                      refine T_exit fun a w hm => then_exit (then_exit (inBlock_exit (then_norm (hm.co (cs := [.keep [0, 1, 6]]) (by show _ = _; kernel_rfl)))))
                  · skip
                    obtain hs := Option.some.inj h; subst hs
                    refine fun a w hm => inBlock_norm (then_norm (⟨_, rfl, hm.co (cs := [.keep [0, 1, 6]]) (by show _ = _; kernel_rfl)⟩))
            · skip
              refine T_region [(1, { rw := some (.d (.v (.int .i64 (v10.length : Int)))) })] [0, 1, 6, 97] [] [(0, .d (.str z7)), (1, .d (.v (.bool a1))), (6, .own 5 1 (v10.map cU)), (97, .d (.v (.bool (decide ((v10.length : Int) > (65536 : Int))))))] [(1, True ∧ AV.d (.v (.int .i64 ((v10.map cU).length : Int))) = .d (.v (.int .i64 (v10.length : Int))))] 1 (by kernel_rfl) (len_ok cU) ?_
              refine T_cond (decide ((v10.length : Int) > (65536 : Int))) (by kernel_rfl) (fun hc => ?_) (fun hc => ?_)
              · have h := cond_tt hc h
                refine T_region [] [4, 5] [] [(4, .d (.str [])), (5, .d (.v (.int .i64 (2 : Int))))] [] 2 (by kernel_rfl) (trivial) ?_
                obtain hs := Option.some.inj h; subst hs
                have h := callE_esc hk1
                obtain hs := Option.some.inj h; subst hs
                refine T_ret fun a w hm => inBlock_ret (then_ret (inBlock_ret (then_ret (T_return (fr' := [(4, .d (.str [])), (5, .d (.v (.int .i64 (2 : Int))))]) [4, 5] (by kernel_rfl) [.keep [4, 5]] (by kernel_rfl) (by kernel_rfl) (by kernel_rfl) (by show _ = _; kernel_rfl) (by exact trivial) a w hm))))
              · have h := cond_ff hc h
                refine T_skip fun a w hm => inBlock_norm (then_norm (⟨(z7, v10), h, hm.co (cs := [.keep [0, 1, 6]]) (by show _ = _; kernel_rfl)⟩))
    · have h := cond_ff hc h
      obtain hs := Option.some.inj h; subst hs
      refine T_exit fun a w hm => then_exit (then_exit (inBlock_exit (then_norm (⟨_, rfl, hm.co (cs := [.keep [6]]) (by show _ = _; kernel_rfl)⟩))))
  · skip
    refine T_region [(1, { cs := [.str v11] })] [4, 5] [] [(4, .d (.str v11)), (5, .d (.v (.int .i64 (0 : Int))))] [(1, (v11.map cU) = byteCells v11)] 2 (by kernel_rfl) (rfl) ?_
    obtain hs := Option.some.inj h; subst hs
    refine T_ret fun a w hm => T_return (fr' := [(4, .d (.str v11)), (5, .d (.v (.int .i64 (0 : Int))))]) [4, 5] (by kernel_rfl) [.keep [4, 5]] (by kernel_rfl) (by kernel_rfl) (by kernel_rfl) (by show _ = _; kernel_rfl) (by exact trivial) a w hm

theorem ref3_Lettered_ok {F : Nat} {a0 : List UInt8} {r : (List UInt8)} (h : ref3_Lettered F a0 = some r) : ACall Tryd.prog 92 [.d (.str a0)] [] (.d (.str r)) [] := by
  rw [ref3_Lettered] at h
  refine ACall.intro (N := 66) Tryd.func92 rfl rfl rfl rfl rfl fun e => ?_
  refine T_region [] [0] [] [(0, .d (.str a0))] [] 1 (by kernel_rfl) (trivial) ?_
  refine T_region [] [0, 3] [] [(0, .d (.str a0)), (3, .own 5 1 ([].map cU))] [] 1 (by kernel_rfl) (trivial) ?_
  refine T_seqk ?_
  refine T_region [] [0, 3, 4] [] [(0, .d (.str a0)), (3, .own 5 1 ([].map cU)), (4, .d (.v (.int .i64 (0 : Int))))] [] 1 (by kernel_rfl) (trivial) ?_
  refine T_joinct h (fun (p : (List UInt8)) => [(3, .own 5 1 (p.map cU))]) (fun s h => ?_) (fun v13 h => ?_)
  · refine T_co [.keep [0, 3, 4]] ((fun (p : (List UInt8) × Int) => [(0, .d (.str a0)), (3, .own 5 1 (p.1.map cU)), (4, .d (.v (.int .i64 p.2)))]) ([], (0 : Int))) (by show _ = _; kernel_rfl) ?_
    refine T_block ?_
    refine T_loopF (ι := (List UInt8) × Int) (fun (p : (List UInt8) × Int) => [(0, .d (.str a0)), (3, .own 5 1 (p.1.map cU)), (4, .d (.v (.int .i64 p.2)))]) (fun n p => ref3_Lettered_L0 F a0 n p.1 p.2 = some s) (fun i hh => by simp [ref3_Lettered_L0] at hh) (fun n p h => ?_) F ([], (0 : Int)) h
    obtain ⟨v9, v1⟩ := p
    have h : ref3_Lettered_L0 F a0 (n + 1) v9 v1 = some s := h
    rw [ref3_Lettered_L0] at h
    refine T_seqk ?_
    refine T_region [] [0, 3, 4, 12] [] [(0, .d (.str a0)), (3, .own 5 1 (v9.map cU)), (4, .d (.v (.int .i64 v1))), (12, .d (.v (.bool (decide (v1 < (a0.length : Int))))))] [] 4 (by kernel_rfl) (trivial) ?_
    refine T_cond (decide (v1 < (a0.length : Int))) (by kernel_rfl) (fun hc => ?_) (fun hc => ?_)
    · have h := cond_tt hc h
      refine T_skip fun a w hm => then_norm (((?_ : T Tryd.prog e 66 _ _ _) a w hm))
      refine T_joinc h (fun (p : (List UInt8)) => [(0, .d (.str a0)), (3, .own 5 1 (p.map cU)), (4, .d (.v (.int .i64 v1)))]) (fun s h => ?_) (fun v12 h => ?_)
      · refine T_block ?_
        obtain ⟨z1, hz1, h⟩ := lett_ok h
        refine T_region [(4, { rw := some (.d (.v (.int .i64 z1))) })] [0, 3, 4, 5] [] [(0, .d (.str a0)), (3, .own 5 1 (v9.map cU)), (4, .d (.v (.int .i64 v1))), (5, .d (.v (.int .i64 z1)))] [(4, (True) ∧ AV.d (.v (.int .i64 (if (IntKind.i64.wrap ((a0.length : Int) - v1)) < (4 : Int) then (IntKind.i64.wrap ((a0.length : Int) - v1)) else (4 : Int)))) = .d (.v (.int .i64 z1)))] 1 (by kernel_rfl) (⟨trivial, (by subst hz1; rfl)⟩) ?_
        refine T_region [] [0, 3, 4, 5, 6] [] [(0, .d (.str a0)), (3, .own 5 1 (v9.map cU)), (4, .d (.v (.int .i64 v1))), (5, .d (.v (.int .i64 z1))), (6, .d (.v (.int .i64 (0 : Int))))] [] 1 (by kernel_rfl) (trivial) ?_
        refine T_seqk ?_
        refine T_region [] [0, 3, 4, 5, 6, 20] [] [(0, .d (.str a0)), (3, .own 5 1 (v9.map cU)), (4, .d (.v (.int .i64 v1))), (5, .d (.v (.int .i64 z1))), (6, .d (.v (.int .i64 (0 : Int)))), (20, .d (.v (.int .i64 (0 : Int))))] [] 1 (by kernel_rfl) (trivial) ?_
        refine T_joinct h (fun (p : Int) => [(0, .d (.str a0)), (3, .own 5 1 (v9.map cU)), (4, .d (.v (.int .i64 v1))), (5, .d (.v (.int .i64 z1))), (6, .d (.v (.int .i64 p)))]) (fun s h => ?_) (fun v10 h => ?_)
        · refine T_co [.keep [0, 3, 4, 5, 6, 20]] ((fun (p : Int × Int) => [(0, .d (.str a0)), (3, .own 5 1 (v9.map cU)), (4, .d (.v (.int .i64 v1))), (5, .d (.v (.int .i64 z1))), (6, .d (.v (.int .i64 p.1))), (20, .d (.v (.int .i64 p.2)))]) ((0 : Int), (0 : Int))) (by show _ = _; kernel_rfl) ?_
          refine T_block ?_
          refine T_loopF (ι := Int × Int) (fun (p : Int × Int) => [(0, .d (.str a0)), (3, .own 5 1 (v9.map cU)), (4, .d (.v (.int .i64 v1))), (5, .d (.v (.int .i64 z1))), (6, .d (.v (.int .i64 p.1))), (20, .d (.v (.int .i64 p.2)))]) (fun n p => ref3_Lettered_L2 F a0 v1 z1 n p.1 p.2 = some s) (fun i hh => by simp [ref3_Lettered_L2] at hh) (fun n p h => ?_) F ((0 : Int), (0 : Int)) h
          obtain ⟨v2, v3⟩ := p
          have h : ref3_Lettered_L2 F a0 v1 z1 (n + 1) v2 v3 = some s := h
          rw [ref3_Lettered_L2] at h
          refine T_region [] [0, 3, 4, 5, 6, 20, 21] [] [(0, .d (.str a0)), (3, .own 5 1 (v9.map cU)), (4, .d (.v (.int .i64 v1))), (5, .d (.v (.int .i64 z1))), (6, .d (.v (.int .i64 v2))), (20, .d (.v (.int .i64 v3))), (21, .d (.v (.bool (decide (v3 < (4 : Int))))))] [] 1 (by kernel_rfl) (trivial) ?_
          refine T_seqk ?_
          refine T_cond (decide (v3 < (4 : Int))) (by kernel_rfl) (fun hc => ?_) (fun hc => ?_)
          · have h := cond_tt hc h
            refine T_skip fun a w hm => then_norm (((?_ : T Tryd.prog e 66 _ _ _) a w hm))
            refine T_joinc h (fun (p : Int) => [(0, .d (.str a0)), (3, .own 5 1 (v9.map cU)), (4, .d (.v (.int .i64 v1))), (5, .d (.v (.int .i64 z1))), (6, .d (.v (.int .i64 p))), (20, .d (.v (.int .i64 v3)))]) (fun s h => ?_) (fun v4 h => ?_)
            · refine T_block ?_
              refine T_region [] [0, 3, 4, 5, 6, 7, 20] [] [(0, .d (.str a0)), (3, .own 5 1 (v9.map cU)), (4, .d (.v (.int .i64 v1))), (5, .d (.v (.int .i64 z1))), (6, .d (.v (.int .i64 v2))), (7, .d (.v (.int .i64 v3))), (20, .d (.v (.int .i64 v3)))] [] 2 (by kernel_rfl) (trivial) ?_
              refine T_region [] [0, 3, 4, 5, 6, 7, 20] [] [(0, .d (.str a0)), (3, .own 5 1 (v9.map cU)), (4, .d (.v (.int .i64 v1))), (5, .d (.v (.int .i64 z1))), (6, .d (.v (.int .i64 (IntKind.i64.wrap (v2 * (256 : Int)))))), (7, .d (.v (.int .i64 v3))), (20, .d (.v (.int .i64 v3)))] [] 3 (by kernel_rfl) (trivial) ?_
              refine T_region [] [0, 3, 4, 5, 6, 7, 20, 27] [] [(0, .d (.str a0)), (3, .own 5 1 (v9.map cU)), (4, .d (.v (.int .i64 v1))), (5, .d (.v (.int .i64 z1))), (6, .d (.v (.int .i64 (IntKind.i64.wrap (v2 * (256 : Int)))))), (7, .d (.v (.int .i64 v3))), (20, .d (.v (.int .i64 v3))), (27, .d (.v (.bool (decide (v3 < z1)))))] [] 3 (by kernel_rfl) (trivial) ?_
              refine T_cond (decide (v3 < z1)) (by kernel_rfl) (fun hc => ?_) (fun hc => ?_)
              · have h := cond_tt hc h
                obtain ⟨hp1, h⟩ := chk_ok h
                obtain ⟨z2, hz2, h⟩ := lett_ok h
                obtain hs := Option.some.inj h; subst hs
                refine T_region_end [(7, { rw := some (.d (.v (.int .i64 z2))) })] [0, 3, 4, 5, 6, 20] [] [(0, .d (.str a0)), (3, .own 5 1 (v9.map cU)), (4, .d (.v (.int .i64 v1))), (5, .d (.v (.int .i64 z1))), (6, .d (.v (.int .i64 z2))), (20, .d (.v (.int .i64 v3)))] [(5, 0 ≤ (IntKind.i64.wrap (v1 + v3)) ∧ (IntKind.i64.wrap (v1 + v3)) < a0.length), (1, (True) ∧ AV.d (.v (.int .i64 (IntKind.i64.wrap ((IntKind.i64.wrap (v2 * (256 : Int))) + (IntKind.i64.wrap ((a0.getD (IntKind.i64.wrap (v1 + v3)).toNat 0).toNat : Int)))))) = .d (.v (.int .i64 z2)))] 1 (by kernel_rfl) (⟨hp1, ⟨trivial, (by subst hz2; rfl)⟩⟩) fun a w hm => inBlock_norm (then_norm (hm.co (cs := [.keep [0, 3, 4, 5, 6, 20]]) (by show _ = _; kernel_rfl)))
              · have h := cond_ff hc h
                obtain hs := Option.some.inj h; subst hs
                refine T_skip fun a w hm => inBlock_norm (then_norm (hm.co (cs := [.keep [0, 3, 4, 5, 6, 20]]) (by show _ = _; kernel_rfl)))
            · skip
              refine T_region_end [] [0, 3, 4, 5, 6, 20] [] [(0, .d (.str a0)), (3, .own 5 1 (v9.map cU)), (4, .d (.v (.int .i64 v1))), (5, .d (.v (.int .i64 z1))), (6, .d (.v (.int .i64 v4))), (20, .d (.v (.int .i64 (IntKind.i64.wrap (v3 + (1 : Int))))))] [] 2 (by kernel_rfl) (trivial) fun a w hm => then_norm (⟨(v4, IntKind.i64.wrap (v3 + (1 : Int))), h, hm.co (cs := [.keep [0, 3, 4, 5, 6, 20]]) (by show _ = _; kernel_rfl)⟩)
          · have h := cond_ff hc h
            obtain hs := Option.some.inj h; subst hs
            refine T_exit fun a w hm => then_exit (then_exit (inBlock_exit (then_norm (hm.co (cs := [.keep [0, 3, 4, 5, 6]]) (by show _ = _; kernel_rfl)))))
        · skip
          refine fun a w hm => then_norm (((?_ : T Tryd.prog e 66 _ _ _) a w hm))
          refine T_seqk ?_
          refine T_region [] [0, 3, 4, 5, 6, 42] [] [(0, .d (.str a0)), (3, .own 5 1 (v9.map cU)), (4, .d (.v (.int .i64 v1))), (5, .d (.v (.int .i64 z1))), (6, .d (.v (.int .i64 v10))), (42, .d (.v (.bool (bif (v10 == (0 : Int)) then (z1 == (4 : Int)) else false))))] [(3, ((((v10 == (0 : Int)) == true) && true) = true → True)), (0, ((((v10 == (0 : Int)) == true) && true) = true → True))] 1 (by kernel_rfl) (⟨(fun hg => trivial), (fun hg => trivial)⟩) ?_
          refine T_cond (bif (v10 == (0 : Int)) then (z1 == (4 : Int)) else false) (by kernel_rfl) (fun hc => ?_) (fun hc => ?_)
          · have h := cond_tt hc h
            obtain ⟨hp2, h⟩ := chk_ok h
            refine T_region [(1, { es := some (([(UInt8.ofNat (122 : Int).toNat)]).map cU) }), (2, { es := some ((v9 ++ ([(UInt8.ofNat (122 : Int).toNat)])).map cU) })] [0, 3, 4] [] [(0, .d (.str a0)), (3, .own 5 1 ((v9 ++ ([(UInt8.ofNat (122 : Int).toNat)])).map cU)), (4, .d (.v (.int .i64 v1)))] [(1, [[Dat.v (.int .u8 (122 : Int))]] = (([(UInt8.ofNat (122 : Int).toNat)]).map cU)), (0, (v9.map cU).length + (([(UInt8.ofNat (122 : Int).toNat)]).map cU).length ≤ 4294967296 ∧ (v9.map cU) ++ (([(UInt8.ofNat (122 : Int).toNat)]).map cU) = ((v9 ++ ([(UInt8.ofNat (122 : Int).toNat)])).map cU))] 1 (by kernel_rfl) (⟨(lit_u (by decide) rfl), app_ok cU hp2⟩) ?_
            obtain hs := Option.some.inj h; subst hs
            refine T_exit fun a w hm => then_exit (inBlock_exit (then_norm (hm.co (cs := [.keep [0, 3, 4]]) (by show _ = _; kernel_rfl))))
          · have h := cond_ff hc h
            refine T_skip fun a w hm => then_norm (((?_ : T Tryd.prog e 66 _ _ _) a w hm))
            refine T_region [] [0, 3, 4, 5, 6, 8] [] [(0, .d (.str a0)), (3, .own 5 1 (v9.map cU)), (4, .d (.v (.int .i64 v1))), (5, .d (.v (.int .i64 z1))), (6, .d (.v (.int .i64 v10))), (8, .d (.v (.int .i64 (52200625 : Int))))] [] 1 (by kernel_rfl) (trivial) ?_
            refine T_region [] [0, 3, 4, 6, 8, 47, 48] [] [(0, .d (.str a0)), (3, .own 5 1 (v9.map cU)), (4, .d (.v (.int .i64 v1))), (6, .d (.v (.int .i64 v10))), (8, .d (.v (.int .i64 (52200625 : Int)))), (47, .d (.v (.int .i64 (IntKind.i64.wrap (z1 + (1 : Int)))))), (48, .d (.v (.int .i64 (0 : Int))))] [] 3 (by kernel_rfl) (trivial) ?_
            refine T_joinct h (fun (p : (List UInt8)) => [(0, .d (.str a0)), (3, .own 5 1 (p.map cU)), (4, .d (.v (.int .i64 v1)))]) (fun s h => ?_) (fun v11 h => ?_)
            · refine T_co [.keep [0, 3, 4, 6, 8, 47, 48]] ((fun (p : (List UInt8) × Int × Int × Int) => [(0, .d (.str a0)), (3, .own 5 1 (p.1.map cU)), (4, .d (.v (.int .i64 v1))), (6, .d (.v (.int .i64 p.2.1))), (8, .d (.v (.int .i64 p.2.2.1))), (47, .d (.v (.int .i64 (IntKind.i64.wrap (z1 + (1 : Int)))))), (48, .d (.v (.int .i64 p.2.2.2)))]) (v9, v10, (52200625 : Int), (0 : Int))) (by show _ = _; kernel_rfl) ?_
              refine T_block ?_
              refine T_loopF (ι := (List UInt8) × Int × Int × Int) (fun (p : (List UInt8) × Int × Int × Int) => [(0, .d (.str a0)), (3, .own 5 1 (p.1.map cU)), (4, .d (.v (.int .i64 v1))), (6, .d (.v (.int .i64 p.2.1))), (8, .d (.v (.int .i64 p.2.2.1))), (47, .d (.v (.int .i64 (IntKind.i64.wrap (z1 + (1 : Int)))))), (48, .d (.v (.int .i64 p.2.2.2)))]) (fun n p => ref3_Lettered_L4 F z1 n p.1 p.2.1 p.2.2.1 p.2.2.2 = some s) (fun i hh => by simp [ref3_Lettered_L4] at hh) (fun n p h => ?_) F (v9, v10, (52200625 : Int), (0 : Int)) h
              obtain ⟨v5, v6, v7, v8⟩ := p
              have h : ref3_Lettered_L4 F z1 (n + 1) v5 v6 v7 v8 = some s := h
              rw [ref3_Lettered_L4] at h
              refine T_region [] [0, 3, 4, 6, 8, 47, 48, 49] [] [(0, .d (.str a0)), (3, .own 5 1 (v5.map cU)), (4, .d (.v (.int .i64 v1))), (6, .d (.v (.int .i64 v6))), (8, .d (.v (.int .i64 v7))), (47, .d (.v (.int .i64 (IntKind.i64.wrap (z1 + (1 : Int)))))), (48, .d (.v (.int .i64 v8))), (49, .d (.v (.bool (decide (v8 < (IntKind.i64.wrap (z1 + (1 : Int))))))))] [] 1 (by kernel_rfl) (trivial) ?_
              refine T_seqk ?_
              refine T_cond (decide (v8 < (IntKind.i64.wrap (z1 + (1 : Int))))) (by kernel_rfl) (fun hc => ?_) (fun hc => ?_)
              · have h := cond_tt hc h
                refine T_skip fun a w hm => then_norm (((?_ : T Tryd.prog e 66 _ _ _) a w hm))
                refine T_seqk ?_
                refine T_block ?_
                obtain ⟨hp3, h⟩ := chk_ok h
                obtain ⟨hp4, h⟩ := chk_ok h
                obtain ⟨hp5, h⟩ := chk_ok h
                obtain ⟨l1, hl1, h⟩ := lett_ok h
                refine T_region [(6, { es := some (([(UInt8.ofNat (IntKind.u8.wrap (IntKind.i64.wrap ((33 : Int) + (IntKind.i64.wrap (v6.tdiv v7))))).toNat)]).map cU) }), (7, { es := some (l1.map cU) })] [0, 3, 4, 6, 8, 47, 48] [] [(0, .d (.str a0)), (3, .own 5 1 (l1.map cU)), (4, .d (.v (.int .i64 v1))), (6, .d (.v (.int .i64 v6))), (8, .d (.v (.int .i64 v7))), (47, .d (.v (.int .i64 (IntKind.i64.wrap (z1 + (1 : Int)))))), (48, .d (.v (.int .i64 v8)))] [(3, v7 ≠ 0), (2, [[Dat.v (.int .u8 (IntKind.u8.wrap (IntKind.i64.wrap ((33 : Int) + (IntKind.i64.wrap (v6.tdiv v7))))))]] = (([(UInt8.ofNat (IntKind.u8.wrap (IntKind.i64.wrap ((33 : Int) + (IntKind.i64.wrap (v6.tdiv v7))))).toNat)]).map cU)), (0, (v5.map cU).length + (([(UInt8.ofNat (IntKind.u8.wrap (IntKind.i64.wrap ((33 : Int) + (IntKind.i64.wrap (v6.tdiv v7))))).toNat)]).map cU).length ≤ 4294967296 ∧ (v5.map cU) ++ (([(UInt8.ofNat (IntKind.u8.wrap (IntKind.i64.wrap ((33 : Int) + (IntKind.i64.wrap (v6.tdiv v7))))).toNat)]).map cU) = (l1.map cU))] 1 (by kernel_rfl) (⟨hp3, (lit_u hp4 rfl), and_trans (app_ok cU hp5) (by subst hl1; rfl)⟩) ?_
                obtain ⟨hp6, h⟩ := chk_ok h
                refine T_region [] [0, 3, 4, 6, 8, 47, 48] [] [(0, .d (.str a0)), (3, .own 5 1 (l1.map cU)), (4, .d (.v (.int .i64 v1))), (6, .d (.v (.int .i64 (v6.tmod v7)))), (8, .d (.v (.int .i64 v7))), (47, .d (.v (.int .i64 (IntKind.i64.wrap (z1 + (1 : Int)))))), (48, .d (.v (.int .i64 v8)))] [(2, v7 ≠ 0)] 1 (by kernel_rfl) (hp6) ?_
                refine T_region_end [] [0, 3, 4, 6, 8, 47, 48] [] [(0, .d (.str a0)), (3, .own 5 1 (l1.map cU)), (4, .d (.v (.int .i64 v1))), (6, .d (.v (.int .i64 (v6.tmod v7)))), (8, .d (.v (.int .i64 (IntKind.i64.wrap (v7.tdiv (85 : Int)))))), (47, .d (.v (.int .i64 (IntKind.i64.wrap (z1 + (1 : Int)))))), (48, .d (.v (.int .i64 v8)))] [(1, (85 : Int) ≠ 0)] 1 (by kernel_rfl) ((show (85 : Int) ≠ 0 by decide)) fun a w hm => inBlock_norm (then_norm (((?_ : T Tryd.prog e 66 _ _ _) a w hm)))
                refine T_region_end [] [0, 3, 4, 6, 8, 47, 48] [] [(0, .d (.str a0)), (3, .own 5 1 (l1.map cU)), (4, .d (.v (.int .i64 v1))), (6, .d (.v (.int .i64 (v6.tmod v7)))), (8, .d (.v (.int .i64 (IntKind.i64.wrap (v7.tdiv (85 : Int)))))), (47, .d (.v (.int .i64 (IntKind.i64.wrap (z1 + (1 : Int)))))), (48, .d (.v (.int .i64 (IntKind.i64.wrap (v8 + (1 : Int))))))] [] 2 (by kernel_rfl) (trivial) fun a w hm => then_norm (⟨(l1, (v6.tmod v7), IntKind.i64.wrap (v7.tdiv (85 : Int)), IntKind.i64.wrap (v8 + (1 : Int))), h, hm.co (cs := [.keep [0, 3, 4, 6, 8, 47, 48]]) (by show _ = _; kernel_rfl)⟩)
              · have h := cond_ff hc h
                obtain hs := Option.some.inj h; subst hs
                refine T_exit fun a w hm => then_exit (then_exit (inBlock_exit (then_norm (hm.co (cs := [.keep [0, 3, 4]]) (by show _ = _; kernel_rfl)))))
            · skip
              obtain hs := Option.some.inj h; subst hs
              refine fun a w hm => inBlock_norm (then_norm (hm.co (cs := [.keep [0, 3, 4]]) (by show _ = _; kernel_rfl)))
      · skip
        refine T_region_end [] [0, 3, 4] [] [(0, .d (.str a0)), (3, .own 5 1 (v12.map cU)), (4, .d (.v (.int .i64 (IntKind.i64.wrap (v1 + (4 : Int))))))] [] 3 (by kernel_rfl) (trivial) fun a w hm => then_norm (⟨(v12, IntKind.i64.wrap (v1 + (4 : Int))), h, hm.co (cs := [.keep [0, 3, 4]]) (by show _ = _; kernel_rfl)⟩)
    · have h := cond_ff hc h
      obtain hs := Option.some.inj h; subst hs
      refine T_exit fun a w hm => then_exit (then_exit (inBlock_exit (then_norm (hm.co (cs := [.keep [3]]) (by show _ = _; kernel_rfl)))))
  · skip
    refine fun a w hm => then_norm (((?_ : T Tryd.prog e 66 _ _ _) a w hm))
    refine T_region [(1, { cs := [.str v13] })] [2] [] [(2, .d (.str v13))] [(1, (v13.map cU) = byteCells v13)] 1 (by kernel_rfl) (rfl) ?_
    obtain hs := Option.some.inj h; subst hs
    refine T_ret fun a w hm => T_return (fr' := [(2, .d (.str v13))]) [2] (by kernel_rfl) [.keep [2]] (by kernel_rfl) (by kernel_rfl) (by kernel_rfl) (by show _ = _; kernel_rfl) (by exact trivial) a w hm

theorem ref3_unletter_ok {F : Nat} {a0 : List UInt8} {r : (List UInt8) × Int} (h : ref3_unletter F a0 = some r) : ACall Tryd.prog 59 [.d (.str a0)] [] (.tup [.d (.str r.1), .d (.v (.int .i64 r.2))]) [] := by
  rw [ref3_unletter] at h
  refine ACall.intro (N := 100) Tryd.func59 rfl rfl rfl rfl rfl fun e => ?_
  refine T_region [] [0] [] [(0, .d (.str a0))] [] 2 (by kernel_rfl) (trivial) ?_
  refine T_region [] [0, 4] [] [(0, .d (.str a0)), (4, .own 5 1 ([].map cU))] [] 1 (by kernel_rfl) (trivial) ?_
  refine T_seqk ?_
  refine T_region [] [0, 4, 5] [] [(0, .d (.str a0)), (4, .own 5 1 ([].map cU)), (5, .d (.v (.int .i64 (0 : Int))))] [] 1 (by kernel_rfl) (trivial) ?_
  refine T_joinEt h (fun (p : (List UInt8)) => [(4, .own 5 1 (p.map cU))]) (fun s h hk1 => ?_) (fun v9 h => ?_)
  · refine T_co [.keep [0, 4, 5]] ((fun (p : (List UInt8) × Int) => [(0, .d (.str a0)), (4, .own 5 1 (p.1.map cU)), (5, .d (.v (.int .i64 p.2)))]) ([], (0 : Int))) (by show _ = _; kernel_rfl) ?_
    refine T_block ?_
    refine T_loopF (ι := (List UInt8) × Int) (fun (p : (List UInt8) × Int) => [(0, .d (.str a0)), (4, .own 5 1 (p.1.map cU)), (5, .d (.v (.int .i64 p.2)))]) (fun n p => ref3_unletter_L0 F a0 n p.1 p.2 = some s) (fun i hh => by simp [ref3_unletter_L0] at hh) (fun n p h => ?_) F ([], (0 : Int)) h
    obtain ⟨v5, v1⟩ := p
    have h : ref3_unletter_L0 F a0 (n + 1) v5 v1 = some s := h
    rw [ref3_unletter_L0] at h
    refine T_seqk ?_
    refine T_region [] [0, 4, 5, 14] [] [(0, .d (.str a0)), (4, .own 5 1 (v5.map cU)), (5, .d (.v (.int .i64 v1))), (14, .d (.v (.bool (decide (v1 < (a0.length : Int))))))] [] 4 (by kernel_rfl) (trivial) ?_
    refine T_cond (decide (v1 < (a0.length : Int))) (by kernel_rfl) (fun hc => ?_) (fun hc => ?_)
    · have h := cond_tt hc h
      refine T_skip fun a w hm => then_norm (((?_ : T Tryd.prog e 100 _ _ _) a w hm))
      refine T_block ?_
      refine T_joinE h (fun (p : (List UInt8) × Int) => [(0, .d (.str a0)), (4, .own 5 1 (p.1.map cU)), (5, .d (.v (.int .i64 p.2)))]) (fun s h hk2 => ?_) (fun s h => ?_)
      · obtain ⟨hp1, h⟩ := chk_ok h
        refine T_region [] [0, 4, 5, 18] [] [(0, .d (.str a0)), (4, .own 5 1 (v5.map cU)), (5, .d (.v (.int .i64 v1))), (18, .d (.v (.bool (((a0.getD v1.toNat 0).toNat : Int) == (122 : Int)))))] [(2, 0 ≤ v1 ∧ v1 < a0.length)] 1 (by kernel_rfl) (hp1) ?_
        refine T_cond (((a0.getD v1.toNat 0).toNat : Int) == (122 : Int)) (by kernel_rfl) (fun hc => ?_) (fun hc => ?_)
        · have h := cond_tt hc h
          obtain ⟨hp2, h⟩ := chk_ok h
          obtain ⟨l1, hl1, h⟩ := lett_ok h
          refine T_region [(1, { es := some (([(UInt8.ofNat (0 : Int).toNat), (UInt8.ofNat (0 : Int).toNat), (UInt8.ofNat (0 : Int).toNat), (UInt8.ofNat (0 : Int).toNat)]).map cU) }), (2, { es := some (l1.map cU) })] [0, 4, 5] [] [(0, .d (.str a0)), (4, .own 5 1 (l1.map cU)), (5, .d (.v (.int .i64 v1)))] [(1, [[Dat.v (.int .u8 (0 : Int))], [Dat.v (.int .u8 (0 : Int))], [Dat.v (.int .u8 (0 : Int))], [Dat.v (.int .u8 (0 : Int))]] = (([(UInt8.ofNat (0 : Int).toNat), (UInt8.ofNat (0 : Int).toNat), (UInt8.ofNat (0 : Int).toNat), (UInt8.ofNat (0 : Int).toNat)]).map cU)), (0, (v5.map cU).length + (([(UInt8.ofNat (0 : Int).toNat), (UInt8.ofNat (0 : Int).toNat), (UInt8.ofNat (0 : Int).toNat), (UInt8.ofNat (0 : Int).toNat)]).map cU).length ≤ 4294967296 ∧ (v5.map cU) ++ (([(UInt8.ofNat (0 : Int).toNat), (UInt8.ofNat (0 : Int).toNat), (UInt8.ofNat (0 : Int).toNat), (UInt8.ofNat (0 : Int).toNat)]).map cU) = (l1.map cU))] 1 (by kernel_rfl) (⟨(lit_u (by decide) (lit_u (by decide) (lit_u (by decide) (lit_u (by decide) rfl)))), and_trans (app_ok cU hp2) (by subst hl1; rfl)⟩) ?_
          obtain hs := Option.some.inj h; subst hs
          refine T_region_end [] [0, 4, 5] [] [(0, .d (.str a0)), (4, .own 5 1 (l1.map cU)), (5, .d (.v (.int .i64 (IntKind.i64.wrap (v1 + (1 : Int))))))] [] 3 (by kernel_rfl) (trivial) fun a w hm => then_norm (⟨_, rfl, hm.co (cs := [.keep [0, 4, 5]]) (by show _ = _; kernel_rfl)⟩)
        · have h := cond_ff hc h
          obtain ⟨z1, hz1, h⟩ := lett_ok h
          obtain ⟨hp3, h⟩ := chk_ok h
          refine T_region [(6, { rw := some (.d (.v (.int .i64 z1))) })] [0, 4, 5, 6] [] [(0, .d (.str a0)), (4, .own 5 1 (v5.map cU)), (5, .d (.v (.int .i64 v1))), (6, .d (.str ((a0.drop v1.toNat).take (z1.toNat - v1.toNat))))] [(6, (True) ∧ AV.d (.v (.int .i64 (if (IntKind.i64.wrap (v1 + (5 : Int))) < (a0.length : Int) then (IntKind.i64.wrap (v1 + (5 : Int))) else (a0.length : Int)))) = .d (.v (.int .i64 z1))), (0, 0 ≤ v1 ∧ v1 ≤ z1 ∧ z1 ≤ (a0.length : Int))] 1 (by kernel_rfl) (⟨⟨trivial, (by subst hz1; rfl)⟩, hp3⟩) ?_
          refine T_region [] [0, 4, 5, 6, 7] [] [(0, .d (.str a0)), (4, .own 5 1 (v5.map cU)), (5, .d (.v (.int .i64 v1))), (6, .d (.str ((a0.drop v1.toNat).take (z1.toNat - v1.toNat)))), (7, .d (.v (.int .i64 (0 : Int))))] [] 1 (by kernel_rfl) (trivial) ?_
          refine T_seqk ?_
          refine T_region [] [0, 4, 5, 6, 7, 32] [] [(0, .d (.str a0)), (4, .own 5 1 (v5.map cU)), (5, .d (.v (.int .i64 v1))), (6, .d (.str ((a0.drop v1.toNat).take (z1.toNat - v1.toNat)))), (7, .d (.v (.int .i64 (0 : Int)))), (32, .d (.v (.int .i64 (0 : Int))))] [] 1 (by kernel_rfl) (trivial) ?_
          refine T_joinEt h (fun (p : Int) => [(0, .d (.str a0)), (4, .own 5 1 (v5.map cU)), (5, .d (.v (.int .i64 v1))), (6, .d (.str ((a0.drop v1.toNat).take (z1.toNat - v1.toNat)))), (7, .d (.v (.int .i64 p)))]) (fun s h hk3 => ?_) (fun v6 h => ?_)
          · refine T_co [.keep [0, 4, 5, 6, 7, 32]] ((fun (p : Int × Int) => [(0, .d (.str a0)), (4, .own 5 1 (v5.map cU)), (5, .d (.v (.int .i64 v1))), (6, .d (.str ((a0.drop v1.toNat).take (z1.toNat - v1.toNat)))), (7, .d (.v (.int .i64 p.1))), (32, .d (.v (.int .i64 p.2)))]) ((0 : Int), (0 : Int))) (by show _ = _; kernel_rfl) ?_
            refine T_block ?_
            refine T_loopF (ι := Int × Int) (fun (p : Int × Int) => [(0, .d (.str a0)), (4, .own 5 1 (v5.map cU)), (5, .d (.v (.int .i64 v1))), (6, .d (.str ((a0.drop v1.toNat).take (z1.toNat - v1.toNat)))), (7, .d (.v (.int .i64 p.1))), (32, .d (.v (.int .i64 p.2)))]) (fun n p => ref3_unletter_L2 F a0 v1 z1 n p.1 p.2 = some s) (fun i hh => by simp [ref3_unletter_L2] at hh) (fun n p h => ?_) F ((0 : Int), (0 : Int)) h
            obtain ⟨v2, v3⟩ := p
            have h : ref3_unletter_L2 F a0 v1 z1 (n + 1) v2 v3 = some s := h
            rw [ref3_unletter_L2] at h
            refine T_region [] [0, 4, 5, 6, 7, 32, 33] [] [(0, .d (.str a0)), (4, .own 5 1 (v5.map cU)), (5, .d (.v (.int .i64 v1))), (6, .d (.str ((a0.drop v1.toNat).take (z1.toNat - v1.toNat)))), (7, .d (.v (.int .i64 v2))), (32, .d (.v (.int .i64 v3))), (33, .d (.v (.bool (decide (v3 < (5 : Int))))))] [] 1 (by kernel_rfl) (trivial) ?_
            refine T_seqk ?_
            refine T_cond (decide (v3 < (5 : Int))) (by kernel_rfl) (fun hc => ?_) (fun hc => ?_)
            · have h := cond_tt hc h
              refine T_skip fun a w hm => then_norm (((?_ : T Tryd.prog e 100 _ _ _) a w hm))
              refine T_seqk ?_
              refine T_block ?_
              refine T_region [] [0, 4, 5, 6, 7, 8, 32] [] [(0, .d (.str a0)), (4, .own 5 1 (v5.map cU)), (5, .d (.v (.int .i64 v1))), (6, .d (.str ((a0.drop v1.toNat).take (z1.toNat - v1.toNat)))), (7, .d (.v (.int .i64 v2))), (8, .d (.v (.int .i64 v3))), (32, .d (.v (.int .i64 v3)))] [] 2 (by kernel_rfl) (trivial) ?_
              refine T_region [] [0, 4, 5, 6, 7, 8, 9, 32] [] [(0, .d (.str a0)), (4, .own 5 1 (v5.map cU)), (5, .d (.v (.int .i64 v1))), (6, .d (.str ((a0.drop v1.toNat).take (z1.toNat - v1.toNat)))), (7, .d (.v (.int .i64 v2))), (8, .d (.v (.int .i64 v3))), (9, .d (.v (.int .i64 (84 : Int)))), (32, .d (.v (.int .i64 v3)))] [] 1 (by kernel_rfl) (trivial) ?_
              refine T_joinc h (fun (p : Int) => [(0, .d (.str a0)), (4, .own 5 1 (v5.map cU)), (5, .d (.v (.int .i64 v1))), (6, .d (.str ((a0.drop v1.toNat).take (z1.toNat - v1.toNat)))), (7, .d (.v (.int .i64 v2))), (9, .d (.v (.int .i64 p))), (32, .d (.v (.int .i64 v3)))]) (fun s h => ?_) (fun v4 h => ?_)
              · refine T_region [] [0, 4, 5, 6, 7, 8, 9, 32, 38] [] [(0, .d (.str a0)), (4, .own 5 1 (v5.map cU)), (5, .d (.v (.int .i64 v1))), (6, .d (.str ((a0.drop v1.toNat).take (z1.toNat - v1.toNat)))), (7, .d (.v (.int .i64 v2))), (8, .d (.v (.int .i64 v3))), (9, .d (.v (.int .i64 (84 : Int)))), (32, .d (.v (.int .i64 v3))), (38, .d (.v (.bool (decide (v3 < (((a0.drop v1.toNat).take (z1.toNat - v1.toNat)).length : Int))))))] [] 4 (by kernel_rfl) (trivial) ?_
                refine T_cond (decide (v3 < (((a0.drop v1.toNat).take (z1.toNat - v1.toNat)).length : Int))) (by kernel_rfl) (fun hc => ?_) (fun hc => ?_)
                · have h := cond_tt hc h
                  obtain ⟨hp4, h⟩ := chk_ok h
                  obtain ⟨z2, hz2, h⟩ := lett_ok h
                  obtain hs := Option.some.inj h; subst hs
                  refine T_region_end [(3, { rw := some (.d (.v (.int .i64 z2))) })] [0, 4, 5, 6, 7, 9, 32] [] [(0, .d (.str a0)), (4, .own 5 1 (v5.map cU)), (5, .d (.v (.int .i64 v1))), (6, .d (.str ((a0.drop v1.toNat).take (z1.toNat - v1.toNat)))), (7, .d (.v (.int .i64 v2))), (9, .d (.v (.int .i64 (IntKind.i64.wrap (z2 - (33 : Int)))))), (32, .d (.v (.int .i64 v3)))] [(2, 0 ≤ v3 ∧ v3 < ((a0.drop v1.toNat).take (z1.toNat - v1.toNat)).length), (0, (True) ∧ AV.d (.v (.int .i64 (IntKind.i64.wrap ((((a0.drop v1.toNat).take (z1.toNat - v1.toNat)).getD v3.toNat 0).toNat : Int)))) = .d (.v (.int .i64 z2)))] 2 (by kernel_rfl) (⟨hp4, ⟨trivial, (by subst hz2; rfl)⟩⟩) fun a w hm => then_norm (hm.co (cs := [.keep [0, 4, 5, 6, 7, 9, 32]]) (by show _ = _; kernel_rfl))
                · have h := cond_ff hc h
                  obtain hs := Option.some.inj h; subst hs
                  refine T_skip fun a w hm => then_norm (hm.co (cs := [.keep [0, 4, 5, 6, 7, 9, 32]]) (by show _ = _; kernel_rfl))
              · skip
                refine T_seqk ?_
                refine T_region [] [0, 4, 5, 6, 7, 9, 32, 49] [] [(0, .d (.str a0)), (4, .own 5 1 (v5.map cU)), (5, .d (.v (.int .i64 v1))), (6, .d (.str ((a0.drop v1.toNat).take (z1.toNat - v1.toNat)))), (7, .d (.v (.int .i64 v2))), (9, .d (.v (.int .i64 v4))), (32, .d (.v (.int .i64 v3))), (49, .d (.v (.bool (bif (decide (v4 < (0 : Int))) then true else (decide (v4 > (84 : Int)))))))] [(3, ((((decide (v4 < (0 : Int))) == false) && true) = true → True)), (0, ((((decide (v4 < (0 : Int))) == false) && true) = true → True))] 1 (by kernel_rfl) (⟨(fun hg => trivial), (fun hg => trivial)⟩) ?_
                refine T_cond (bif (decide (v4 < (0 : Int))) then true else (decide (v4 > (84 : Int)))) (by kernel_rfl) (fun hc => ?_) (fun hc => ?_)
                · have h := cond_tt hc h
                  refine T_region [] [2, 3] [] [(2, .d (.str [])), (3, .d (.v (.int .i64 (5 : Int))))] [] 2 (by kernel_rfl) (trivial) ?_
                  obtain hs := Option.some.inj h; subst hs
                  have h := callE_esc hk3
                  obtain hs := Option.some.inj h; subst hs
                  have h := callE_esc hk2
                  obtain hs := Option.some.inj h; subst hs
                  have h := callE_esc hk1
                  obtain hs := Option.some.inj h; subst hs
                  refine T_ret fun a w hm => then_ret (inBlock_ret (then_ret (then_ret (inBlock_ret (then_ret (then_ret (then_ret (inBlock_ret (then_ret (inBlock_ret (then_ret (then_ret (T_return (fr' := [(2, .d (.str [])), (3, .d (.v (.int .i64 (5 : Int))))]) [2, 3] (by kernel_rfl) [.keep [2, 3]] (by kernel_rfl) (by kernel_rfl) (by kernel_rfl) (by show _ = _; kernel_rfl) (by exact trivial) a w hm)))))))))))))
                · have h := cond_ff hc h
                  refine T_skip fun a w hm => then_norm (((?_ : T Tryd.prog e 100 _ _ _) a w hm))
                  refine T_region_end [] [0, 4, 5, 6, 7, 32] [] [(0, .d (.str a0)), (4, .own 5 1 (v5.map cU)), (5, .d (.v (.int .i64 v1))), (6, .d (.str ((a0.drop v1.toNat).take (z1.toNat - v1.toNat)))), (7, .d (.v (.int .i64 (IntKind.i64.wrap ((IntKind.i64.wrap (v2 * (85 : Int))) + v4))))), (32, .d (.v (.int .i64 v3)))] [] 5 (by kernel_rfl) (trivial) fun a w hm => inBlock_norm (then_norm (((?_ : T Tryd.prog e 100 _ _ _) a w hm)))
                  refine T_region_end [] [0, 4, 5, 6, 7, 32] [] [(0, .d (.str a0)), (4, .own 5 1 (v5.map cU)), (5, .d (.v (.int .i64 v1))), (6, .d (.str ((a0.drop v1.toNat).take (z1.toNat - v1.toNat)))), (7, .d (.v (.int .i64 (IntKind.i64.wrap ((IntKind.i64.wrap (v2 * (85 : Int))) + v4))))), (32, .d (.v (.int .i64 (IntKind.i64.wrap (v3 + (1 : Int))))))] [] 2 (by kernel_rfl) (trivial) fun a w hm => then_norm (⟨(IntKind.i64.wrap ((IntKind.i64.wrap (v2 * (85 : Int))) + v4), IntKind.i64.wrap (v3 + (1 : Int))), h, hm.co (cs := [.keep [0, 4, 5, 6, 7, 32]]) (by show _ = _; kernel_rfl)⟩)
            · have h := cond_ff hc h
              obtain hs := Option.some.inj h; subst hs
              refine T_exit fun a w hm => then_exit (then_exit (inBlock_exit (then_norm (⟨_, rfl, hm.co (cs := [.keep [0, 4, 5, 6, 7]]) (by show _ = _; kernel_rfl)⟩))))
          · skip
            refine fun a w hm => then_norm (((?_ : T Tryd.prog e 100 _ _ _) a w hm))
            refine T_seqk ?_
            refine T_region [] [0, 4, 5, 6, 7, 57] [] [(0, .d (.str a0)), (4, .own 5 1 (v5.map cU)), (5, .d (.v (.int .i64 v1))), (6, .d (.str ((a0.drop v1.toNat).take (z1.toNat - v1.toNat)))), (7, .d (.v (.int .i64 v6))), (57, .d (.v (.bool ((((a0.drop v1.toNat).take (z1.toNat - v1.toNat)).length : Int) == (1 : Int)))))] [] 3 (by kernel_rfl) (trivial) ?_
            refine T_cond ((((a0.drop v1.toNat).take (z1.toNat - v1.toNat)).length : Int) == (1 : Int)) (by kernel_rfl) (fun hc => ?_) (fun hc => ?_)
            · have h := cond_tt hc h
              refine T_region [] [2, 3] [] [(2, .d (.str [])), (3, .d (.v (.int .i64 (12 : Int))))] [] 2 (by kernel_rfl) (trivial) ?_
              obtain hs := Option.some.inj h; subst hs
              have h := callE_esc hk2
              obtain hs := Option.some.inj h; subst hs
              have h := callE_esc hk1
              obtain hs := Option.some.inj h; subst hs
              refine T_ret fun a w hm => then_ret (then_ret (inBlock_ret (then_ret (inBlock_ret (then_ret (then_ret (T_return (fr' := [(2, .d (.str [])), (3, .d (.v (.int .i64 (12 : Int))))]) [2, 3] (by kernel_rfl) [.keep [2, 3]] (by kernel_rfl) (by kernel_rfl) (by kernel_rfl) (by show _ = _; kernel_rfl) (by exact trivial) a w hm)))))))
            · have h := cond_ff hc h
              refine T_skip fun a w hm => then_norm (((?_ : T Tryd.prog e 100 _ _ _) a w hm))
              refine T_seqk ?_
              refine T_region [] [0, 4, 5, 6, 7, 59] [] [(0, .d (.str a0)), (4, .own 5 1 (v5.map cU)), (5, .d (.v (.int .i64 v1))), (6, .d (.str ((a0.drop v1.toNat).take (z1.toNat - v1.toNat)))), (7, .d (.v (.int .i64 v6))), (59, .d (.v (.bool (decide (v6 ≥ (4294967296 : Int))))))] [] 2 (by kernel_rfl) (trivial) ?_
              refine T_cond (decide (v6 ≥ (4294967296 : Int))) (by kernel_rfl) (fun hc => ?_) (fun hc => ?_)
              · have h := cond_tt hc h
                refine T_region [] [2, 3] [] [(2, .d (.str [])), (3, .d (.v (.int .i64 (3 : Int))))] [] 2 (by kernel_rfl) (trivial) ?_
                obtain hs := Option.some.inj h; subst hs
                have h := callE_esc hk2
                obtain hs := Option.some.inj h; subst hs
                have h := callE_esc hk1
                obtain hs := Option.some.inj h; subst hs
                refine T_ret fun a w hm => then_ret (then_ret (inBlock_ret (then_ret (inBlock_ret (then_ret (then_ret (T_return (fr' := [(2, .d (.str [])), (3, .d (.v (.int .i64 (3 : Int))))]) [2, 3] (by kernel_rfl) [.keep [2, 3]] (by kernel_rfl) (by kernel_rfl) (by kernel_rfl) (by show _ = _; kernel_rfl) (by exact trivial) a w hm)))))))
              · have h := cond_ff hc h
                refine T_skip fun a w hm => then_norm (((?_ : T Tryd.prog e 100 _ _ _) a w hm))
                obtain ⟨hp5, h⟩ := chk_ok h
                obtain ⟨hp6, h⟩ := chk_ok h
                obtain ⟨hp7, h⟩ := chk_ok h
                obtain ⟨hp8, h⟩ := chk_ok h
                refine T_region [(14, { es := some (([(UInt8.ofNat (IntKind.u8.wrap (IntKind.i64.wrap (v6.tdiv (16777216 : Int)))).toNat), (UInt8.ofNat (IntKind.u8.wrap ((IntKind.i64.wrap (v6.tdiv (65536 : Int))).tmod (256 : Int))).toNat), (UInt8.ofNat (IntKind.u8.wrap ((IntKind.i64.wrap (v6.tdiv (256 : Int))).tmod (256 : Int))).toNat), (UInt8.ofNat (IntKind.u8.wrap (v6.tmod (256 : Int))).toNat)]).map cU) })] [0, 4, 5, 6, 10] [] [(0, .d (.str a0)), (4, .own 5 1 (v5.map cU)), (5, .d (.v (.int .i64 v1))), (6, .d (.str ((a0.drop v1.toNat).take (z1.toNat - v1.toNat)))), (10, .own 5 1 (([(UInt8.ofNat (IntKind.u8.wrap (IntKind.i64.wrap (v6.tdiv (16777216 : Int)))).toNat), (UInt8.ofNat (IntKind.u8.wrap ((IntKind.i64.wrap (v6.tdiv (65536 : Int))).tmod (256 : Int))).toNat), (UInt8.ofNat (IntKind.u8.wrap ((IntKind.i64.wrap (v6.tdiv (256 : Int))).tmod (256 : Int))).toNat), (UInt8.ofNat (IntKind.u8.wrap (v6.tmod (256 : Int))).toNat)]).map cU))] [(1, (16777216 : Int) ≠ 0), (2, (65536 : Int) ≠ 0), (0, (256 : Int) ≠ 0), (2, (256 : Int) ≠ 0), (0, (256 : Int) ≠ 0), (2, (256 : Int) ≠ 0), (1, [[Dat.v (.int .u8 (IntKind.u8.wrap (IntKind.i64.wrap (v6.tdiv (16777216 : Int)))))], [Dat.v (.int .u8 (IntKind.u8.wrap ((IntKind.i64.wrap (v6.tdiv (65536 : Int))).tmod (256 : Int))))], [Dat.v (.int .u8 (IntKind.u8.wrap ((IntKind.i64.wrap (v6.tdiv (256 : Int))).tmod (256 : Int))))], [Dat.v (.int .u8 (IntKind.u8.wrap (v6.tmod (256 : Int))))]] = (([(UInt8.ofNat (IntKind.u8.wrap (IntKind.i64.wrap (v6.tdiv (16777216 : Int)))).toNat), (UInt8.ofNat (IntKind.u8.wrap ((IntKind.i64.wrap (v6.tdiv (65536 : Int))).tmod (256 : Int))).toNat), (UInt8.ofNat (IntKind.u8.wrap ((IntKind.i64.wrap (v6.tdiv (256 : Int))).tmod (256 : Int))).toNat), (UInt8.ofNat (IntKind.u8.wrap (v6.tmod (256 : Int))).toNat)]).map cU))] 1 (by kernel_rfl) (⟨(show (16777216 : Int) ≠ 0 by decide), (show (65536 : Int) ≠ 0 by decide), (show (256 : Int) ≠ 0 by decide), (show (256 : Int) ≠ 0 by decide), (show (256 : Int) ≠ 0 by decide), (show (256 : Int) ≠ 0 by decide), (lit_u hp5 (lit_u hp6 (lit_u hp7 (lit_u hp8 rfl))))⟩) ?_
                refine T_seqk ?_
                obtain ⟨hp9, h⟩ := chk_ok h
                obtain ⟨z3, hz3, h⟩ := lett_ok h
                obtain ⟨y1, hy1, h⟩ := call_ok h
                refine T_region [(4, { frz := [(10, 0)], rw := some (.d (.sl 1 (z3.map cU))) }), (5, { cs := [.str z3] }), (6, { res := .d (.str y1) })] [0, 4, 5, 6, 10, 83] [] [(0, .d (.str a0)), (4, .own 5 1 (v5.map cU)), (5, .d (.v (.int .i64 v1))), (6, .d (.str ((a0.drop v1.toNat).take (z1.toNat - v1.toNat)))), (10, .fz 1 (([(UInt8.ofNat (IntKind.u8.wrap (IntKind.i64.wrap (v6.tdiv (16777216 : Int)))).toNat), (UInt8.ofNat (IntKind.u8.wrap ((IntKind.i64.wrap (v6.tdiv (65536 : Int))).tmod (256 : Int))).toNat), (UInt8.ofNat (IntKind.u8.wrap ((IntKind.i64.wrap (v6.tdiv (256 : Int))).tmod (256 : Int))).toNat), (UInt8.ofNat (IntKind.u8.wrap (v6.tmod (256 : Int))).toNat)]).map cU)), (83, .d (.v (.bool (!(y1 == ((a0.drop v1.toNat).take (z1.toNat - v1.toNat)))))))] [(4, (0 ≤ (0 : Int) ∧ (0 : Int) ≤ (IntKind.i64.wrap ((((a0.drop v1.toNat).take (z1.toNat - v1.toNat)).length : Int) - (1 : Int))) ∧ (IntKind.i64.wrap ((((a0.drop v1.toNat).take (z1.toNat - v1.toNat)).length : Int) - (1 : Int))) ≤ ((([(UInt8.ofNat (IntKind.u8.wrap (IntKind.i64.wrap (v6.tdiv (16777216 : Int)))).toNat), (UInt8.ofNat (IntKind.u8.wrap ((IntKind.i64.wrap (v6.tdiv (65536 : Int))).tmod (256 : Int))).toNat), (UInt8.ofNat (IntKind.u8.wrap ((IntKind.i64.wrap (v6.tdiv (256 : Int))).tmod (256 : Int))).toNat), (UInt8.ofNat (IntKind.u8.wrap (v6.tmod (256 : Int))).toNat)]).map cU).length : Int)) ∧ AV.d (.sl 1 (((([(UInt8.ofNat (IntKind.u8.wrap (IntKind.i64.wrap (v6.tdiv (16777216 : Int)))).toNat), (UInt8.ofNat (IntKind.u8.wrap ((IntKind.i64.wrap (v6.tdiv (65536 : Int))).tmod (256 : Int))).toNat), (UInt8.ofNat (IntKind.u8.wrap ((IntKind.i64.wrap (v6.tdiv (256 : Int))).tmod (256 : Int))).toNat), (UInt8.ofNat (IntKind.u8.wrap (v6.tmod (256 : Int))).toNat)]).map cU).drop (0 : Int).toNat).take ((IntKind.i64.wrap ((((a0.drop v1.toNat).take (z1.toNat - v1.toNat)).length : Int) - (1 : Int))).toNat - (0 : Int).toNat))) = .d (.sl 1 (z3.map cU))), (0, (z3.map cU) = byteCells z3), (0, ACall Tryd.prog 92 [.d (.str z3)] [] (.d (.str y1)) [])] 2 (by kernel_rfl) (⟨and_trans (cutH cU hp9) (by subst hz3; rfl), rfl, ref3_Lettered_ok hy1⟩) ?_
                refine T_cond (!(y1 == ((a0.drop v1.toNat).take (z1.toNat - v1.toNat)))) (by kernel_rfl) (fun hc => ?_) (fun hc => ?_)
                · have h := cond_tt hc h
                  refine T_region [] [2, 3] [] [(2, .d (.str [])), (3, .d (.v (.int .i64 (4 : Int))))] [] 2 (by kernel_rfl) (trivial) ?_
                  obtain hs := Option.some.inj h; subst hs
                  have h := callE_esc hk2
                  obtain hs := Option.some.inj h; subst hs
                  have h := callE_esc hk1
                  obtain hs := Option.some.inj h; subst hs
                  refine T_ret fun a w hm => then_ret (then_ret (inBlock_ret (then_ret (inBlock_ret (then_ret (then_ret (T_return (fr' := [(2, .d (.str [])), (3, .d (.v (.int .i64 (4 : Int))))]) [2, 3] (by kernel_rfl) [.keep [2, 3]] (by kernel_rfl) (by kernel_rfl) (by kernel_rfl) (by show _ = _; kernel_rfl) (by exact trivial) a w hm)))))))
                · have h := cond_ff hc h
                  refine T_skip fun a w hm => then_norm (((?_ : T Tryd.prog e 100 _ _ _) a w hm))
                  obtain ⟨z4, hz4, h⟩ := lett_ok h
                  obtain ⟨hp10, h⟩ := chk_ok h
                  obtain ⟨z5, hz5, h⟩ := lett_ok h
                  obtain ⟨hp11, h⟩ := chk_ok h
                  refine T_region [(1, { rw := some (.d (.sl 1 (z4.map cU))) }), (5, { rw := some (.d (.sl 1 (z5.map cU))) }), (6, { es := some ((v5 ++ z5).map cU) })] [0, 4, 5, 6] [] [(0, .d (.str a0)), (4, .own 5 1 ((v5 ++ z5).map cU)), (5, .d (.v (.int .i64 v1))), (6, .d (.str ((a0.drop v1.toNat).take (z1.toNat - v1.toNat))))] [(1, (True) ∧ AV.d (.sl 1 (([(UInt8.ofNat (IntKind.u8.wrap (IntKind.i64.wrap (v6.tdiv (16777216 : Int)))).toNat), (UInt8.ofNat (IntKind.u8.wrap ((IntKind.i64.wrap (v6.tdiv (65536 : Int))).tmod (256 : Int))).toNat), (UInt8.ofNat (IntKind.u8.wrap ((IntKind.i64.wrap (v6.tdiv (256 : Int))).tmod (256 : Int))).toNat), (UInt8.ofNat (IntKind.u8.wrap (v6.tmod (256 : Int))).toNat)]).map cU)) = .d (.sl 1 (z4.map cU))), (3, (0 ≤ (0 : Int) ∧ (0 : Int) ≤ (IntKind.i64.wrap ((((a0.drop v1.toNat).take (z1.toNat - v1.toNat)).length : Int) - (1 : Int))) ∧ (IntKind.i64.wrap ((((a0.drop v1.toNat).take (z1.toNat - v1.toNat)).length : Int) - (1 : Int))) ≤ ((z4.map cU).length : Int)) ∧ AV.d (.sl 1 (((z4.map cU).drop (0 : Int).toNat).take ((IntKind.i64.wrap ((((a0.drop v1.toNat).take (z1.toNat - v1.toNat)).length : Int) - (1 : Int))).toNat - (0 : Int).toNat))) = .d (.sl 1 (z5.map cU))), (0, (v5.map cU).length + (z5.map cU).length ≤ 4294967296 ∧ (v5.map cU) ++ (z5.map cU) = ((v5 ++ z5).map cU))] 1 (by kernel_rfl) (⟨⟨trivial, (by subst hz4; rfl)⟩, and_trans (cutH cU hp10) (by subst hz5; rfl), app_ok cU hp11⟩) ?_
                  obtain hs := Option.some.inj h; subst hs
                  refine T_region_end [] [0, 4, 5] [] [(0, .d (.str a0)), (4, .own 5 1 ((v5 ++ z5).map cU)), (5, .d (.v (.int .i64 (IntKind.i64.wrap (v1 + (((a0.drop v1.toNat).take (z1.toNat - v1.toNat)).length : Int))))))] [] 5 (by kernel_rfl) (trivial) fun a w hm => then_norm (⟨_, rfl, hm.co (cs := [.keep [0, 4, 5]]) (by show _ = _; kernel_rfl)⟩)
      · obtain ⟨v7, v8⟩ := s
        try dsimp only at h
        refine T_region [(1, { rw := some (.d (.v (.int .i64 (v7.length : Int)))) })] [0, 4, 5, 97] [] [(0, .d (.str a0)), (4, .own 5 1 (v7.map cU)), (5, .d (.v (.int .i64 v8))), (97, .d (.v (.bool (decide ((v7.length : Int) > (65536 : Int))))))] [(1, True ∧ AV.d (.v (.int .i64 ((v7.map cU).length : Int))) = .d (.v (.int .i64 (v7.length : Int))))] 1 (by kernel_rfl) (len_ok cU) ?_
        refine T_cond (decide ((v7.length : Int) > (65536 : Int))) (by kernel_rfl) (fun hc => ?_) (fun hc => ?_)
        · have h := cond_tt hc h
          refine T_region [] [2, 3] [] [(2, .d (.str [])), (3, .d (.v (.int .i64 (2 : Int))))] [] 2 (by kernel_rfl) (trivial) ?_
          obtain hs := Option.some.inj h; subst hs
          have h := callE_esc hk1
          obtain hs := Option.some.inj h; subst hs
          refine T_ret fun a w hm => inBlock_ret (then_ret (inBlock_ret (then_ret (then_ret (T_return (fr' := [(2, .d (.str [])), (3, .d (.v (.int .i64 (2 : Int))))]) [2, 3] (by kernel_rfl) [.keep [2, 3]] (by kernel_rfl) (by kernel_rfl) (by kernel_rfl) (by show _ = _; kernel_rfl) (by exact trivial) a w hm)))))
        · have h := cond_ff hc h
          refine T_skip fun a w hm => inBlock_norm (then_norm (⟨(v7, v8), h, hm.co (cs := [.keep [0, 4, 5]]) (by show _ = _; kernel_rfl)⟩))
    · have h := cond_ff hc h
      obtain hs := Option.some.inj h; subst hs
      refine T_exit fun a w hm => then_exit (then_exit (inBlock_exit (then_norm (⟨_, rfl, hm.co (cs := [.keep [4]]) (by show _ = _; kernel_rfl)⟩))))
  · skip
    refine fun a w hm => then_norm (((?_ : T Tryd.prog e 100 _ _ _) a w hm))
    refine T_region [(1, { cs := [.str v9] })] [2, 3] [] [(2, .d (.str v9)), (3, .d (.v (.int .i64 (0 : Int))))] [(1, (v9.map cU) = byteCells v9)] 2 (by kernel_rfl) (rfl) ?_
    obtain hs := Option.some.inj h; subst hs
    refine T_ret fun a w hm => T_return (fr' := [(2, .d (.str v9)), (3, .d (.v (.int .i64 (0 : Int))))]) [2, 3] (by kernel_rfl) [.keep [2, 3]] (by kernel_rfl) (by kernel_rfl) (by kernel_rfl) (by show _ = _; kernel_rfl) (by exact trivial) a w hm

theorem ref3_Decoded_ok {F : Nat} {a0 : List S_FilterStep} {a1 : List UInt8} {r : (List UInt8) × Int} (h : ref3_Decoded F a0 a1 = some r) : ACall Tryd.prog 17 [.d (.sl 2 (a0.map cS_FilterStep)), .d (.str a1)] [] (.tup [.d (.str r.1), .d (.v (.int .i64 r.2))]) [] := by
  rw [ref3_Decoded] at h
  refine ACall.intro (N := 93) Tryd.func17 rfl rfl rfl rfl rfl fun e => ?_
  refine T_region [] [0, 1] [] [(0, .d (.sl 2 (a0.map cS_FilterStep))), (1, .d (.str a1))] [] 2 (by kernel_rfl) (trivial) ?_
  refine T_seqk ?_
  obtain ⟨y4, hy1, h⟩ := call_ok h
  refine T_region [(1, { res := .d (.v (.int .i64 y4)) })] [0, 1, 6] [] [(0, .d (.sl 2 (a0.map cS_FilterStep))), (1, .d (.str a1)), (6, .d (.v (.int .i64 y4)))] [(1, ACall Tryd.prog 19 [.d (.sl 2 (a0.map cS_FilterStep))] [] (.d (.v (.int .i64 y4))) [])] 1 (by kernel_rfl) (ref3_StepError_ok hy1) ?_
  refine T_region [] [0, 1, 6, 16] [] [(0, .d (.sl 2 (a0.map cS_FilterStep))), (1, .d (.str a1)), (6, .d (.v (.int .i64 y4))), (16, .d (.v (.bool (y4 != (0 : Int)))))] [] 2 (by kernel_rfl) (trivial) ?_
  refine T_cond (y4 != (0 : Int)) (by kernel_rfl) (fun hc => ?_) (fun hc => ?_)
  · have h := cond_tt hc h
    refine T_region [] [4, 5] [] [(4, .d (.str [])), (5, .d (.v (.int .i64 y4)))] [] 3 (by kernel_rfl) (trivial) ?_
    obtain hs := Option.some.inj h; subst hs
    refine T_ret fun a w hm => then_ret (T_return (fr' := [(4, .d (.str [])), (5, .d (.v (.int .i64 y4)))]) [4, 5] (by kernel_rfl) [.keep [4, 5]] (by kernel_rfl) (by kernel_rfl) (by kernel_rfl) (by show _ = _; kernel_rfl) (by exact trivial) a w hm)
  · have h := cond_ff hc h
    refine T_skip fun a w hm => then_norm (((?_ : T Tryd.prog e 93 _ _ _) a w hm))
    refine T_seqk ?_
    refine T_region [] [0, 1, 20] [] [(0, .d (.sl 2 (a0.map cS_FilterStep))), (1, .d (.str a1)), (20, .d (.v (.bool (decide ((a1.length : Int) > (65536 : Int))))))] [] 3 (by kernel_rfl) (trivial) ?_
    refine T_cond (decide ((a1.length : Int) > (65536 : Int))) (by kernel_rfl) (fun hc => ?_) (fun hc => ?_)
    · have h := cond_tt hc h
      refine T_region [] [4, 5] [] [(4, .d (.str [])), (5, .d (.v (.int .i64 (2 : Int))))] [] 2 (by kernel_rfl) (trivial) ?_
      obtain hs := Option.some.inj h; subst hs
      refine T_ret fun a w hm => then_ret (T_return (fr' := [(4, .d (.str [])), (5, .d (.v (.int .i64 (2 : Int))))]) [4, 5] (by kernel_rfl) [.keep [4, 5]] (by kernel_rfl) (by kernel_rfl) (by kernel_rfl) (by show _ = _; kernel_rfl) (by exact trivial) a w hm)
    · have h := cond_ff hc h
      refine T_skip fun a w hm => then_norm (((?_ : T Tryd.prog e 93 _ _ _) a w hm))
      refine T_seqk ?_
      refine T_region [(1, { rw := some (.d (.v (.int .i64 (a0.length : Int)))) })] [0, 1, 22, 23] [] [(0, .d (.sl 2 (a0.map cS_FilterStep))), (1, .d (.str a1)), (22, .d (.v (.int .i64 (a0.length : Int)))), (23, .d (.v (.int .i64 (0 : Int))))] [(1, True ∧ AV.d (.v (.int .i64 ((a0.map cS_FilterStep).length : Int))) = .d (.v (.int .i64 (a0.length : Int))))] 1 (by kernel_rfl) (len_ok cS_FilterStep) ?_
      refine T_joinEt h (fun (p : (List UInt8)) => [(1, .d (.str p))]) (fun s h hk1 => ?_) (fun v9 h => ?_)
      · refine T_co [.keep [0, 1, 22, 23]] ((fun (p : (List UInt8) × Int) => [(0, .d (.sl 2 (a0.map cS_FilterStep))), (1, .d (.str p.1)), (22, .d (.v (.int .i64 (a0.length : Int)))), (23, .d (.v (.int .i64 p.2)))]) (a1, (0 : Int))) (by show _ = _; kernel_rfl) ?_
        refine T_block ?_
        refine T_loopF (ι := (List UInt8) × Int) (fun (p : (List UInt8) × Int) => [(0, .d (.sl 2 (a0.map cS_FilterStep))), (1, .d (.str p.1)), (22, .d (.v (.int .i64 (a0.length : Int)))), (23, .d (.v (.int .i64 p.2)))]) (fun n p => ref3_Decoded_L0 F a0 n p.1 p.2 = some s) (fun i hh => by simp [ref3_Decoded_L0] at hh) (fun n p h => ?_) F (a1, (0 : Int)) h
        obtain ⟨v1, v2⟩ := p
        have h : ref3_Decoded_L0 F a0 (n + 1) v1 v2 = some s := h
        rw [ref3_Decoded_L0] at h
        refine T_region [] [0, 1, 22, 23, 24] [] [(0, .d (.sl 2 (a0.map cS_FilterStep))), (1, .d (.str v1)), (22, .d (.v (.int .i64 (a0.length : Int)))), (23, .d (.v (.int .i64 v2))), (24, .d (.v (.bool (decide (v2 < (a0.length : Int))))))] [] 1 (by kernel_rfl) (trivial) ?_
        refine T_seqk ?_
        refine T_cond (decide (v2 < (a0.length : Int))) (by kernel_rfl) (fun hc => ?_) (fun hc => ?_)
        · have h := cond_tt hc h
          refine T_skip fun a w hm => then_norm (((?_ : T Tryd.prog e 93 _ _ _) a w hm))
          refine T_seqk ?_
          refine T_block ?_
          refine T_region [] [0, 1, 7, 22, 23] [] [(0, .d (.sl 2 (a0.map cS_FilterStep))), (1, .d (.str v1)), (7, .d (.v (.int .i64 v2))), (22, .d (.v (.int .i64 (a0.length : Int)))), (23, .d (.v (.int .i64 v2)))] [] 2 (by kernel_rfl) (trivial) ?_
          obtain ⟨hp1, h⟩ := chk_ok h
          refine T_region [(2, { rw := some (.d (.v (.int .i64 (a0.length : Int)))) }), (6, { cs := cS_FilterStep (a0.getD (IntKind.i64.wrap ((IntKind.i64.wrap ((a0.length : Int) - (1 : Int))) - v2)).toNat (S_FilterStep.mk 0 0)) })] [0, 1, 8, 9, 22, 23] [] [(0, .d (.sl 2 (a0.map cS_FilterStep))), (1, .d (.str v1)), (8, .box [.d (.v (.int .i64 ((a0.getD (IntKind.i64.wrap ((IntKind.i64.wrap ((a0.length : Int) - (1 : Int))) - v2)).toNat (S_FilterStep.mk 0 0)).f0))), .d (.v (.int .i64 ((a0.getD (IntKind.i64.wrap ((IntKind.i64.wrap ((a0.length : Int) - (1 : Int))) - v2)).toNat (S_FilterStep.mk 0 0)).f1)))]), (9, .d (.v (.int .i64 (0 : Int)))), (22, .d (.v (.int .i64 (a0.length : Int)))), (23, .d (.v (.int .i64 v2)))] [(2, True ∧ AV.d (.v (.int .i64 ((a0.map cS_FilterStep).length : Int))) = .d (.v (.int .i64 (a0.length : Int)))), (3, 0 ≤ (IntKind.i64.wrap ((IntKind.i64.wrap ((a0.length : Int) - (1 : Int))) - v2)) ∧ (a0.map cS_FilterStep)[(IntKind.i64.wrap ((IntKind.i64.wrap ((a0.length : Int) - (1 : Int))) - v2)).toNat]? = some (cS_FilterStep (a0.getD (IntKind.i64.wrap ((IntKind.i64.wrap ((a0.length : Int) - (1 : Int))) - v2)).toNat (S_FilterStep.mk 0 0))))] 4 (by kernel_rfl) (⟨len_ok cS_FilterStep, idx_ok (d := (S_FilterStep.mk 0 0)) cS_FilterStep hp1⟩) ?_
          refine T_joinc h (fun (p : (List UInt8) × Int) => [(0, .d (.sl 2 (a0.map cS_FilterStep))), (1, .d (.str p.1)), (9, .d (.v (.int .i64 p.2))), (22, .d (.v (.int .i64 (a0.length : Int)))), (23, .d (.v (.int .i64 v2)))]) (fun s h => ?_) (fun s h => ?_)
          · obtain ⟨z4, hz1, h⟩ := lett_ok h
            refine T_region [(1, { rw := some (.d (.v (.int .i64 z4))) })] [0, 1, 8, 9, 22, 23, 35] [] [(0, .d (.sl 2 (a0.map cS_FilterStep))), (1, .d (.str v1)), (8, .box [.d (.v (.int .i64 ((a0.getD (IntKind.i64.wrap ((IntKind.i64.wrap ((a0.length : Int) - (1 : Int))) - v2)).toNat (S_FilterStep.mk 0 0)).f0))), .d (.v (.int .i64 ((a0.getD (IntKind.i64.wrap ((IntKind.i64.wrap ((a0.length : Int) - (1 : Int))) - v2)).toNat (S_FilterStep.mk 0 0)).f1)))]), (9, .d (.v (.int .i64 (0 : Int)))), (22, .d (.v (.int .i64 (a0.length : Int)))), (23, .d (.v (.int .i64 v2))), (35, .d (.v (.int .i64 z4)))] [(1, (True) ∧ AV.d (.v (.int .i64 ((a0.getD (IntKind.i64.wrap ((IntKind.i64.wrap ((a0.length : Int) - (1 : Int))) - v2)).toNat (S_FilterStep.mk 0 0)).f0))) = .d (.v (.int .i64 z4)))] 0 (by kernel_rfl) (⟨trivial, (by subst hz1; rfl)⟩) ?_
            refine T_block ?_
            refine T_region [] [0, 1, 8, 9, 22, 23, 35, 64] [] [(0, .d (.sl 2 (a0.map cS_FilterStep))), (1, .d (.str v1)), (8, .box [.d (.v (.int .i64 ((a0.getD (IntKind.i64.wrap ((IntKind.i64.wrap ((a0.length : Int) - (1 : Int))) - v2)).toNat (S_FilterStep.mk 0 0)).f0))), .d (.v (.int .i64 ((a0.getD (IntKind.i64.wrap ((IntKind.i64.wrap ((a0.length : Int) - (1 : Int))) - v2)).toNat (S_FilterStep.mk 0 0)).f1)))]), (9, .d (.v (.int .i64 (0 : Int)))), (22, .d (.v (.int .i64 (a0.length : Int)))), (23, .d (.v (.int .i64 v2))), (35, .d (.v (.int .i64 z4))), (64, .d (.v (.bool (z4 == (1 : Int)))))] [] 2 (by kernel_rfl) (trivial) ?_
            refine T_cond (z4 == (1 : Int)) (by kernel_rfl) (fun hc => ?_) (fun hc => ?_)
            · have h := cond_tt hc h
              obtain ⟨y1, hy2, h⟩ := call_ok h
              obtain hs := Option.some.inj h; subst hs
              refine T_region_end [(1, { res := .tup [.d (.str y1.1), .d (.v (.int .i64 y1.2))] })] [0, 1, 9, 22, 23] [] [(0, .d (.sl 2 (a0.map cS_FilterStep))), (1, .d (.str y1.1)), (9, .d (.v (.int .i64 y1.2))), (22, .d (.v (.int .i64 (a0.length : Int)))), (23, .d (.v (.int .i64 v2)))] [(1, ACall Tryd.prog 58 [.d (.str v1), .d (.v (.bool false))] [] (.tup [.d (.str y1.1), .d (.v (.int .i64 y1.2))]) [])] 5 (by kernel_rfl) (ref3_unpiece_ok hy2) fun a w hm => inBlock_norm (then_norm (hm.co (cs := [.keep [0, 1, 9, 22, 23]]) (by show _ = _; kernel_rfl)))
            · have h := cond_ff hc h
              refine T_region [] [0, 1, 8, 9, 22, 23, 35, 71] [] [(0, .d (.sl 2 (a0.map cS_FilterStep))), (1, .d (.str v1)), (8, .box [.d (.v (.int .i64 ((a0.getD (IntKind.i64.wrap ((IntKind.i64.wrap ((a0.length : Int) - (1 : Int))) - v2)).toNat (S_FilterStep.mk 0 0)).f0))), .d (.v (.int .i64 ((a0.getD (IntKind.i64.wrap ((IntKind.i64.wrap ((a0.length : Int) - (1 : Int))) - v2)).toNat (S_FilterStep.mk 0 0)).f1)))]), (9, .d (.v (.int .i64 (0 : Int)))), (22, .d (.v (.int .i64 (a0.length : Int)))), (23, .d (.v (.int .i64 v2))), (35, .d (.v (.int .i64 z4))), (71, .d (.v (.bool (z4 == (3 : Int)))))] [] 2 (by kernel_rfl) (trivial) ?_
              refine T_cond (z4 == (3 : Int)) (by kernel_rfl) (fun hc => ?_) (fun hc => ?_)
              · have h := cond_tt hc h
                obtain ⟨y2, hy3, h⟩ := call_ok h
                obtain hs := Option.some.inj h; subst hs
                refine T_region_end [(1, { res := .tup [.d (.str y2.1), .d (.v (.int .i64 y2.2))] })] [0, 1, 9, 22, 23] [] [(0, .d (.sl 2 (a0.map cS_FilterStep))), (1, .d (.str y2.1)), (9, .d (.v (.int .i64 y2.2))), (22, .d (.v (.int .i64 (a0.length : Int)))), (23, .d (.v (.int .i64 v2)))] [(1, ACall Tryd.prog 58 [.d (.str v1), .d (.v (.bool true))] [] (.tup [.d (.str y2.1), .d (.v (.int .i64 y2.2))]) [])] 5 (by kernel_rfl) (ref3_unpiece_ok hy3) fun a w hm => inBlock_norm (then_norm (hm.co (cs := [.keep [0, 1, 9, 22, 23]]) (by show _ = _; kernel_rfl)))
              · have h := cond_ff hc h
                refine T_region [] [0, 1, 8, 9, 22, 23, 78] [] [(0, .d (.sl 2 (a0.map cS_FilterStep))), (1, .d (.str v1)), (8, .box [.d (.v (.int .i64 ((a0.getD (IntKind.i64.wrap ((IntKind.i64.wrap ((a0.length : Int) - (1 : Int))) - v2)).toNat (S_FilterStep.mk 0 0)).f0))), .d (.v (.int .i64 ((a0.getD (IntKind.i64.wrap ((IntKind.i64.wrap ((a0.length : Int) - (1 : Int))) - v2)).toNat (S_FilterStep.mk 0 0)).f1)))]), (9, .d (.v (.int .i64 (0 : Int)))), (22, .d (.v (.int .i64 (a0.length : Int)))), (23, .d (.v (.int .i64 v2))), (78, .d (.v (.bool (z4 == (4 : Int)))))] [] 2 (by kernel_rfl) (trivial) ?_
                refine T_cond (z4 == (4 : Int)) (by kernel_rfl) (fun hc => ?_) (fun hc => ?_)
                · have h := cond_tt hc h
                  obtain ⟨y3, hy4, h⟩ := call_ok h
                  obtain hs := Option.some.inj h; subst hs
                  refine T_region_end [(1, { res := .tup [.d (.str y3.1), .d (.v (.int .i64 y3.2))] })] [0, 1, 9, 22, 23] [] [(0, .d (.sl 2 (a0.map cS_FilterStep))), (1, .d (.str y3.1)), (9, .d (.v (.int .i64 y3.2))), (22, .d (.v (.int .i64 (a0.length : Int)))), (23, .d (.v (.int .i64 v2)))] [(1, ACall Tryd.prog 59 [.d (.str v1)] [] (.tup [.d (.str y3.1), .d (.v (.int .i64 y3.2))]) [])] 5 (by kernel_rfl) (ref3_unletter_ok hy4) fun a w hm => inBlock_norm (then_norm (hm.co (cs := [.keep [0, 1, 9, 22, 23]]) (by show _ = _; kernel_rfl)))
                · have h := cond_ff hc h
                  refine T_region [] [0, 1, 8, 9, 10, 22, 23] [] [(0, .d (.sl 2 (a0.map cS_FilterStep))), (1, .d (.str v1)), (8, .box [.d (.v (.int .i64 ((a0.getD (IntKind.i64.wrap ((IntKind.i64.wrap ((a0.length : Int) - (1 : Int))) - v2)).toNat (S_FilterStep.mk 0 0)).f0))), .d (.v (.int .i64 ((a0.getD (IntKind.i64.wrap ((IntKind.i64.wrap ((a0.length : Int) - (1 : Int))) - v2)).toNat (S_FilterStep.mk 0 0)).f1)))]), (9, .d (.v (.int .i64 (0 : Int)))), (10, .own 5 1 ([].map cU)), (22, .d (.v (.int .i64 (a0.length : Int)))), (23, .d (.v (.int .i64 v2)))] [] 1 (by kernel_rfl) (trivial) ?_
                  refine T_seqk ?_
                  refine T_region [] [0, 1, 8, 9, 10, 22, 23, 37, 38] [] [(0, .d (.sl 2 (a0.map cS_FilterStep))), (1, .d (.str v1)), (8, .box [.d (.v (.int .i64 ((a0.getD (IntKind.i64.wrap ((IntKind.i64.wrap ((a0.length : Int) - (1 : Int))) - v2)).toNat (S_FilterStep.mk 0 0)).f0))), .d (.v (.int .i64 ((a0.getD (IntKind.i64.wrap ((IntKind.i64.wrap ((a0.length : Int) - (1 : Int))) - v2)).toNat (S_FilterStep.mk 0 0)).f1)))]), (9, .d (.v (.int .i64 (0 : Int)))), (10, .own 5 1 ([].map cU)), (22, .d (.v (.int .i64 (a0.length : Int)))), (23, .d (.v (.int .i64 v2))), (37, .d (.v (.int .i64 (v1.length : Int)))), (38, .d (.v (.int .i64 (0 : Int))))] [] 3 (by kernel_rfl) (trivial) ?_
                  refine T_joinct h (fun (p : (List UInt8)) => [(0, .d (.sl 2 (a0.map cS_FilterStep))), (9, .d (.v (.int .i64 (0 : Int)))), (10, .own 5 1 (p.map cU)), (22, .d (.v (.int .i64 (a0.length : Int)))), (23, .d (.v (.int .i64 v2)))]) (fun s h => ?_) (fun v6 h => ?_)
                  · refine T_co [.keep [0, 1, 8, 9, 10, 22, 23, 37, 38]] ((fun (p : (List UInt8) × Int) => [(0, .d (.sl 2 (a0.map cS_FilterStep))), (1, .d (.str v1)), (8, .box [.d (.v (.int .i64 ((a0.getD (IntKind.i64.wrap ((IntKind.i64.wrap ((a0.length : Int) - (1 : Int))) - v2)).toNat (S_FilterStep.mk 0 0)).f0))), .d (.v (.int .i64 ((a0.getD (IntKind.i64.wrap ((IntKind.i64.wrap ((a0.length : Int) - (1 : Int))) - v2)).toNat (S_FilterStep.mk 0 0)).f1)))]), (9, .d (.v (.int .i64 (0 : Int)))), (10, .own 5 1 (p.1.map cU)), (22, .d (.v (.int .i64 (a0.length : Int)))), (23, .d (.v (.int .i64 v2))), (37, .d (.v (.int .i64 (v1.length : Int)))), (38, .d (.v (.int .i64 p.2)))]) ([], (0 : Int))) (by show _ = _; kernel_rfl) ?_
                    refine T_block ?_
                    refine T_loopF (ι := (List UInt8) × Int) (fun (p : (List UInt8) × Int) => [(0, .d (.sl 2 (a0.map cS_FilterStep))), (1, .d (.str v1)), (8, .box [.d (.v (.int .i64 ((a0.getD (IntKind.i64.wrap ((IntKind.i64.wrap ((a0.length : Int) - (1 : Int))) - v2)).toNat (S_FilterStep.mk 0 0)).f0))), .d (.v (.int .i64 ((a0.getD (IntKind.i64.wrap ((IntKind.i64.wrap ((a0.length : Int) - (1 : Int))) - v2)).toNat (S_FilterStep.mk 0 0)).f1)))]), (9, .d (.v (.int .i64 (0 : Int)))), (10, .own 5 1 (p.1.map cU)), (22, .d (.v (.int .i64 (a0.length : Int)))), (23, .d (.v (.int .i64 v2))), (37, .d (.v (.int .i64 (v1.length : Int)))), (38, .d (.v (.int .i64 p.2)))]) (fun n p => ref3_Decoded_L3 F a0 v1 v2 n p.1 p.2 = some s) (fun i hh => by simp [ref3_Decoded_L3] at hh) (fun n p h => ?_) F ([], (0 : Int)) h
                    obtain ⟨v3, v4⟩ := p
                    have h : ref3_Decoded_L3 F a0 v1 v2 (n + 1) v3 v4 = some s := h
                    rw [ref3_Decoded_L3] at h
                    refine T_region [] [0, 1, 8, 9, 10, 22, 23, 37, 38, 39] [] [(0, .d (.sl 2 (a0.map cS_FilterStep))), (1, .d (.str v1)), (8, .box [.d (.v (.int .i64 ((a0.getD (IntKind.i64.wrap ((IntKind.i64.wrap ((a0.length : Int) - (1 : Int))) - v2)).toNat (S_FilterStep.mk 0 0)).f0))), .d (.v (.int .i64 ((a0.getD (IntKind.i64.wrap ((IntKind.i64.wrap ((a0.length : Int) - (1 : Int))) - v2)).toNat (S_FilterStep.mk 0 0)).f1)))]), (9, .d (.v (.int .i64 (0 : Int)))), (10, .own 5 1 (v3.map cU)), (22, .d (.v (.int .i64 (a0.length : Int)))), (23, .d (.v (.int .i64 v2))), (37, .d (.v (.int .i64 (v1.length : Int)))), (38, .d (.v (.int .i64 v4))), (39, .d (.v (.bool (decide (v4 < (v1.length : Int))))))] [] 1 (by kernel_rfl) (trivial) ?_
                    refine T_seqk ?_
                    refine T_cond (decide (v4 < (v1.length : Int))) (by kernel_rfl) (fun hc => ?_) (fun hc => ?_)
                    · have h := cond_tt hc h
                      refine T_skip fun a w hm => then_norm (((?_ : T Tryd.prog e 93 _ _ _) a w hm))
                      refine T_seqk ?_
                      refine T_block ?_
                      refine T_region [] [0, 1, 8, 9, 10, 11, 22, 23, 37, 38] [] [(0, .d (.sl 2 (a0.map cS_FilterStep))), (1, .d (.str v1)), (8, .box [.d (.v (.int .i64 ((a0.getD (IntKind.i64.wrap ((IntKind.i64.wrap ((a0.length : Int) - (1 : Int))) - v2)).toNat (S_FilterStep.mk 0 0)).f0))), .d (.v (.int .i64 ((a0.getD (IntKind.i64.wrap ((IntKind.i64.wrap ((a0.length : Int) - (1 : Int))) - v2)).toNat (S_FilterStep.mk 0 0)).f1)))]), (9, .d (.v (.int .i64 (0 : Int)))), (10, .own 5 1 (v3.map cU)), (11, .d (.v (.int .i64 v4))), (22, .d (.v (.int .i64 (a0.length : Int)))), (23, .d (.v (.int .i64 v2))), (37, .d (.v (.int .i64 (v1.length : Int)))), (38, .d (.v (.int .i64 v4)))] [] 2 (by kernel_rfl) (trivial) ?_
                      obtain ⟨hp2, h⟩ := chk_ok h
                      refine T_region [] [0, 1, 8, 9, 10, 11, 12, 22, 23, 37, 38] [] [(0, .d (.sl 2 (a0.map cS_FilterStep))), (1, .d (.str v1)), (8, .box [.d (.v (.int .i64 ((a0.getD (IntKind.i64.wrap ((IntKind.i64.wrap ((a0.length : Int) - (1 : Int))) - v2)).toNat (S_FilterStep.mk 0 0)).f0))), .d (.v (.int .i64 ((a0.getD (IntKind.i64.wrap ((IntKind.i64.wrap ((a0.length : Int) - (1 : Int))) - v2)).toNat (S_FilterStep.mk 0 0)).f1)))]), (9, .d (.v (.int .i64 (0 : Int)))), (10, .own 5 1 (v3.map cU)), (11, .d (.v (.int .i64 v4))), (12, .d (.v (.int .u8 ((v1.getD v4.toNat 0).toNat : Int)))), (22, .d (.v (.int .i64 (a0.length : Int)))), (23, .d (.v (.int .i64 v2))), (37, .d (.v (.int .i64 (v1.length : Int)))), (38, .d (.v (.int .i64 v4)))] [(2, 0 ≤ v4 ∧ v4 < v1.length)] 1 (by kernel_rfl) (hp2) ?_
                      refine T_joinc h (fun (p : Int) => [(0, .d (.sl 2 (a0.map cS_FilterStep))), (1, .d (.str v1)), (8, .box [.d (.v (.int .i64 ((a0.getD (IntKind.i64.wrap ((IntKind.i64.wrap ((a0.length : Int) - (1 : Int))) - v2)).toNat (S_FilterStep.mk 0 0)).f0))), .d (.v (.int .i64 ((a0.getD (IntKind.i64.wrap ((IntKind.i64.wrap ((a0.length : Int) - (1 : Int))) - v2)).toNat (S_FilterStep.mk 0 0)).f1)))]), (9, .d (.v (.int .i64 (0 : Int)))), (10, .own 5 1 (v3.map cU)), (12, .d (.v (.int .u8 p))), (22, .d (.v (.int .i64 (a0.length : Int)))), (23, .d (.v (.int .i64 v2))), (37, .d (.v (.int .i64 (v1.length : Int)))), (38, .d (.v (.int .i64 v4)))]) (fun s h => ?_) (fun v5 h => ?_)
                      · obtain ⟨z1, hz2, h⟩ := lett_ok h
                        refine T_region [(2, { rw := some (.d (.v (.int .i64 z1))) })] [0, 1, 8, 9, 10, 11, 12, 22, 23, 37, 38, 47] [] [(0, .d (.sl 2 (a0.map cS_FilterStep))), (1, .d (.str v1)), (8, .box [.d (.v (.int .i64 ((a0.getD (IntKind.i64.wrap ((IntKind.i64.wrap ((a0.length : Int) - (1 : Int))) - v2)).toNat (S_FilterStep.mk 0 0)).f0))), .d (.v (.int .i64 ((a0.getD (IntKind.i64.wrap ((IntKind.i64.wrap ((a0.length : Int) - (1 : Int))) - v2)).toNat (S_FilterStep.mk 0 0)).f1)))]), (9, .d (.v (.int .i64 (0 : Int)))), (10, .own 5 1 (v3.map cU)), (11, .d (.v (.int .i64 v4))), (12, .d (.v (.int .u8 ((v1.getD v4.toNat 0).toNat : Int)))), (22, .d (.v (.int .i64 (a0.length : Int)))), (23, .d (.v (.int .i64 v2))), (37, .d (.v (.int .i64 (v1.length : Int)))), (38, .d (.v (.int .i64 v4))), (47, .d (.v (.bool (decide (v4 ≥ z1)))))] [(2, (True) ∧ AV.d (.v (.int .i64 ((a0.getD (IntKind.i64.wrap ((IntKind.i64.wrap ((a0.length : Int) - (1 : Int))) - v2)).toNat (S_FilterStep.mk 0 0)).f1))) = .d (.v (.int .i64 z1)))] 1 (by kernel_rfl) (⟨trivial, (by subst hz2; rfl)⟩) ?_
                        refine T_cond (decide (v4 ≥ z1)) (by kernel_rfl) (fun hc => ?_) (fun hc => ?_)
                        · have h := cond_tt hc h
                          obtain ⟨z2, hz3, h⟩ := lett_ok h
                          obtain ⟨hp3, h⟩ := chk_ok h
                          obtain ⟨z3, hz4, h⟩ := lett_ok h
                          obtain hs := Option.some.inj h; subst hs
                          refine T_region_end [(4, { rw := some (.d (.v (.int .i64 z2))) }), (7, { cs := cU (v3.getD (IntKind.i64.wrap (v4 - z2)).toNat 0) }), (8, { rw := some (.d (.v (.int .u8 z3))) })] [0, 1, 8, 9, 10, 12, 22, 23, 37, 38] [] [(0, .d (.sl 2 (a0.map cS_FilterStep))), (1, .d (.str v1)), (8, .box [.d (.v (.int .i64 ((a0.getD (IntKind.i64.wrap ((IntKind.i64.wrap ((a0.length : Int) - (1 : Int))) - v2)).toNat (S_FilterStep.mk 0 0)).f0))), .d (.v (.int .i64 ((a0.getD (IntKind.i64.wrap ((IntKind.i64.wrap ((a0.length : Int) - (1 : Int))) - v2)).toNat (S_FilterStep.mk 0 0)).f1)))]), (9, .d (.v (.int .i64 (0 : Int)))), (10, .own 5 1 (v3.map cU)), (12, .d (.v (.int .u8 z3))), (22, .d (.v (.int .i64 (a0.length : Int)))), (23, .d (.v (.int .i64 v2))), (37, .d (.v (.int .i64 (v1.length : Int)))), (38, .d (.v (.int .i64 v4)))] [(4, (True) ∧ AV.d (.v (.int .i64 ((a0.getD (IntKind.i64.wrap ((IntKind.i64.wrap ((a0.length : Int) - (1 : Int))) - v2)).toNat (S_FilterStep.mk 0 0)).f1))) = .d (.v (.int .i64 z2))), (1, 0 ≤ (IntKind.i64.wrap (v4 - z2)) ∧ (IntKind.i64.wrap (v4 - z2)) < (v3.map cU).length), (0, (v3.map cU)[(IntKind.i64.wrap (v4 - z2)).toNat]? = some (cU (v3.getD (IntKind.i64.wrap (v4 - z2)).toNat 0))), (0, (True) ∧ AV.d (.v (.int .u8 (IntKind.u8.wrap (((v1.getD v4.toNat 0).toNat : Int) + ((v3.getD (IntKind.i64.wrap (v4 - z2)).toNat 0).toNat : Int))))) = .d (.v (.int .u8 z3)))] 1 (by kernel_rfl) (⟨⟨trivial, (by subst hz3; rfl)⟩, own_idx cU hp3, (idx_ok (d := 0) cU hp3).2, ⟨trivial, (by subst hz4; rfl)⟩⟩) fun a w hm => then_norm (hm.co (cs := [.keep [0, 1, 8, 9, 10, 12, 22, 23, 37, 38]]) (by show _ = _; kernel_rfl))
                        · have h := cond_ff hc h
                          obtain hs := Option.some.inj h; subst hs
                          refine T_skip fun a w hm => then_norm (hm.co (cs := [.keep [0, 1, 8, 9, 10, 12, 22, 23, 37, 38]]) (by show _ = _; kernel_rfl))
                      · skip
                        obtain ⟨hp4, h⟩ := chk_ok h
                        obtain ⟨hp5, h⟩ := chk_ok h
                        refine T_region_end [(2, { es := some (([(UInt8.ofNat v5.toNat)]).map cU) }), (3, { es := some ((v3 ++ ([(UInt8.ofNat v5.toNat)])).map cU) })] [0, 1, 8, 9, 10, 22, 23, 37, 38] [] [(0, .d (.sl 2 (a0.map cS_FilterStep))), (1, .d (.str v1)), (8, .box [.d (.v (.int .i64 ((a0.getD (IntKind.i64.wrap ((IntKind.i64.wrap ((a0.length : Int) - (1 : Int))) - v2)).toNat (S_FilterStep.mk 0 0)).f0))), .d (.v (.int .i64 ((a0.getD (IntKind.i64.wrap ((IntKind.i64.wrap ((a0.length : Int) - (1 : Int))) - v2)).toNat (S_FilterStep.mk 0 0)).f1)))]), (9, .d (.v (.int .i64 (0 : Int)))), (10, .own 5 1 ((v3 ++ ([(UInt8.ofNat v5.toNat)])).map cU)), (22, .d (.v (.int .i64 (a0.length : Int)))), (23, .d (.v (.int .i64 v2))), (37, .d (.v (.int .i64 (v1.length : Int)))), (38, .d (.v (.int .i64 v4)))] [(2, [[Dat.v (.int .u8 v5)]] = (([(UInt8.ofNat v5.toNat)]).map cU)), (0, (v3.map cU).length + (([(UInt8.ofNat v5.toNat)]).map cU).length ≤ 4294967296 ∧ (v3.map cU) ++ (([(UInt8.ofNat v5.toNat)]).map cU) = ((v3 ++ ([(UInt8.ofNat v5.toNat)])).map cU))] 1 (by kernel_rfl) (⟨(lit_u hp4 rfl), app_ok cU hp5⟩) fun a w hm => inBlock_norm (then_norm (((?_ : T Tryd.prog e 93 _ _ _) a w hm)))
                        refine T_region_end [] [0, 1, 8, 9, 10, 22, 23, 37, 38] [] [(0, .d (.sl 2 (a0.map cS_FilterStep))), (1, .d (.str v1)), (8, .box [.d (.v (.int .i64 ((a0.getD (IntKind.i64.wrap ((IntKind.i64.wrap ((a0.length : Int) - (1 : Int))) - v2)).toNat (S_FilterStep.mk 0 0)).f0))), .d (.v (.int .i64 ((a0.getD (IntKind.i64.wrap ((IntKind.i64.wrap ((a0.length : Int) - (1 : Int))) - v2)).toNat (S_FilterStep.mk 0 0)).f1)))]), (9, .d (.v (.int .i64 (0 : Int)))), (10, .own 5 1 ((v3 ++ ([(UInt8.ofNat v5.toNat)])).map cU)), (22, .d (.v (.int .i64 (a0.length : Int)))), (23, .d (.v (.int .i64 v2))), (37, .d (.v (.int .i64 (v1.length : Int)))), (38, .d (.v (.int .i64 (IntKind.i64.wrap (v4 + (1 : Int))))))] [] 2 (by kernel_rfl) (trivial) fun a w hm => then_norm (⟨((v3 ++ ([(UInt8.ofNat v5.toNat)])), IntKind.i64.wrap (v4 + (1 : Int))), h, hm.co (cs := [.keep [0, 1, 8, 9, 10, 22, 23, 37, 38]]) (by show _ = _; kernel_rfl)⟩)
                    · have h := cond_ff hc h
                      obtain hs := Option.some.inj h; subst hs
                      refine T_exit fun a w hm => then_exit (then_exit (inBlock_exit (then_norm (hm.co (cs := [.keep [0, 9, 10, 22, 23]]) (by show _ = _; kernel_rfl)))))
                  · skip
                    refine fun a w hm => then_norm (((?_ : T Tryd.prog e 93 _ _ _) a w hm))
                    obtain hs := Option.some.inj h; subst hs
                    refine T_region_end [(1, { cs := [.str v6] })] [0, 1, 9, 22, 23] [] [(0, .d (.sl 2 (a0.map cS_FilterStep))), (1, .d (.str v6)), (9, .d (.v (.int .i64 (0 : Int)))), (22, .d (.v (.int .i64 (a0.length : Int)))), (23, .d (.v (.int .i64 v2)))] [(1, (v6.map cU) = byteCells v6)] 1 (by kernel_rfl) (rfl) fun a w hm => inBlock_norm (then_norm (hm.co (cs := [.keep [0, 1, 9, 22, 23]]) (by show _ = _; kernel_rfl)))
          · obtain ⟨v7, v8⟩ := s
            try dsimp only at h
            refine T_region [] [0, 1, 9, 22, 23, 86] [] [(0, .d (.sl 2 (a0.map cS_FilterStep))), (1, .d (.str v7)), (9, .d (.v (.int .i64 v8))), (22, .d (.v (.int .i64 (a0.length : Int)))), (23, .d (.v (.int .i64 v2))), (86, .d (.v (.bool (v8 != (0 : Int)))))] [] 2 (by kernel_rfl) (trivial) ?_
            refine T_cond (v8 != (0 : Int)) (by kernel_rfl) (fun hc => ?_) (fun hc => ?_)
            · have h := cond_tt hc h
              refine T_region [] [4, 5] [] [(4, .d (.str [])), (5, .d (.v (.int .i64 v8)))] [] 3 (by kernel_rfl) (trivial) ?_
              obtain hs := Option.some.inj h; subst hs
              have h := callE_esc hk1
              obtain hs := Option.some.inj h; subst hs
              refine T_ret fun a w hm => inBlock_ret (then_ret (then_ret (inBlock_ret (then_ret (then_ret (T_return (fr' := [(4, .d (.str [])), (5, .d (.v (.int .i64 v8)))]) [4, 5] (by kernel_rfl) [.keep [4, 5]] (by kernel_rfl) (by kernel_rfl) (by kernel_rfl) (by show _ = _; kernel_rfl) (by exact trivial) a w hm))))))
            · have h := cond_ff hc h
              refine T_skip fun a w hm => inBlock_norm (then_norm (((?_ : T Tryd.prog e 93 _ _ _) a w hm)))
              refine T_region_end [] [0, 1, 22, 23] [] [(0, .d (.sl 2 (a0.map cS_FilterStep))), (1, .d (.str v7)), (22, .d (.v (.int .i64 (a0.length : Int)))), (23, .d (.v (.int .i64 (IntKind.i64.wrap (v2 + (1 : Int))))))] [] 2 (by kernel_rfl) (trivial) fun a w hm => then_norm (⟨(v7, IntKind.i64.wrap (v2 + (1 : Int))), h, hm.co (cs := [.keep [0, 1, 22, 23]]) (by show _ = _; kernel_rfl)⟩)
        · have h := cond_ff hc h
          obtain hs := Option.some.inj h; subst hs
          refine T_exit fun a w hm => then_exit (then_exit (inBlock_exit (then_norm (⟨_, rfl, hm.co (cs := [.keep [1]]) (by show _ = _; kernel_rfl)⟩))))
      · skip
        refine fun a w hm => then_norm (((?_ : T Tryd.prog e 93 _ _ _) a w hm))
        refine T_seqk ?_
        refine T_region [] [1, 91] [] [(1, .d (.str v9)), (91, .d (.v (.bool (decide ((v9.length : Int) > (16384 : Int))))))] [] 3 (by kernel_rfl) (trivial) ?_
        refine T_cond (decide ((v9.length : Int) > (16384 : Int))) (by kernel_rfl) (fun hc => ?_) (fun hc => ?_)
        · have h := cond_tt hc h
          refine T_region [] [4, 5] [] [(4, .d (.str [])), (5, .d (.v (.int .i64 (2 : Int))))] [] 2 (by kernel_rfl) (trivial) ?_
          obtain hs := Option.some.inj h; subst hs
          refine T_ret fun a w hm => then_ret (T_return (fr' := [(4, .d (.str [])), (5, .d (.v (.int .i64 (2 : Int))))]) [4, 5] (by kernel_rfl) [.keep [4, 5]] (by kernel_rfl) (by kernel_rfl) (by kernel_rfl) (by show _ = _; kernel_rfl) (by exact trivial) a w hm)
        · have h := cond_ff hc h
          refine T_skip fun a w hm => then_norm (((?_ : T Tryd.prog e 93 _ _ _) a w hm))
          refine T_region [] [4, 5] [] [(4, .d (.str v9)), (5, .d (.v (.int .i64 (0 : Int))))] [] 3 (by kernel_rfl) (trivial) ?_
          obtain hs := Option.some.inj h; subst hs
          refine T_ret fun a w hm => T_return (fr' := [(4, .d (.str v9)), (5, .d (.v (.int .i64 (0 : Int))))]) [4, 5] (by kernel_rfl) [.keep [4, 5]] (by kernel_rfl) (by kernel_rfl) (by kernel_rfl) (by show _ = _; kernel_rfl) (by exact trivial) a w hm

theorem law3_FilterDecodeMatchesReference_ok {F : Nat} {a0 : List S_FilterStep} {a1 : List UInt8} {r : Bool} (h : law3_FilterDecodeMatchesReference F a0 a1 = some r) : ACall Tryd.prog 4 [.d (.sl 2 (a0.map cS_FilterStep)), .d (.str a1)] [.glo 0 (glob_filter_steps.flatMap (cI .u32))] (.d (.v (.bool r))) [.glo 0 (glob_filter_steps.flatMap (cI .u32))] := by
  rw [law3_FilterDecodeMatchesReference] at h
  refine ACall.intro (N := 38) Tryd.func4 rfl rfl rfl rfl rfl fun e => ?_
  refine T_region [] [0, 1, 1000000] [] [(0, .d (.sl 2 (a0.map cS_FilterStep))), (1, .d (.str a1)), (1000000, .glo 0 (glob_filter_steps.flatMap (cI .u32)))] [] 1 (by kernel_rfl) (trivial) ?_
  refine T_seqk ?_
  obtain ⟨y1, hy1, h⟩ := call_ok h
  refine T_region [(0, { res := .d (.v (.bool y1)), vout := [.glo 0 (glob_filter_steps.flatMap (cI .u32))], xs := [1000000] })] [0, 1, 10, 1000000] [] [(0, .d (.sl 2 (a0.map cS_FilterStep))), (1, .d (.str a1)), (10, .d (.v (.bool (!y1)))), (1000000, .glo 0 (glob_filter_steps.flatMap (cI .u32)))] [(0, ACall Tryd.prog 15 [] [.glo 0 (glob_filter_steps.flatMap (cI .u32))] (.d (.v (.bool y1))) [.glo 0 (glob_filter_steps.flatMap (cI .u32))])] 1 (by kernel_rfl) (law3_filterFact_ok hy1) ?_
  refine T_cond (!y1) (by kernel_rfl) (fun hc => ?_) (fun hc => ?_)
  · have h := cond_tt hc h
    refine T_region [] [4, 1000000] [] [(4, .d (.v (.bool false))), (1000000, .glo 0 (glob_filter_steps.flatMap (cI .u32)))] [] 1 (by kernel_rfl) (trivial) ?_
    obtain hs := Option.some.inj h; subst hs
    refine T_ret fun a w hm => then_ret (T_return (fr' := [(4, .d (.v (.bool false))), (1000000, .glo 0 (glob_filter_steps.flatMap (cI .u32)))]) [4] (by kernel_rfl) [.keep [4, 1000000]] (by kernel_rfl) (by kernel_rfl) (by kernel_rfl) (by show _ = _; kernel_rfl) (by exact ⟨⟨by kernel_rfl, by kernel_rfl⟩, trivial⟩) a w hm)
  · have h := cond_ff hc h
    refine T_skip fun a w hm => then_norm (((?_ : T Tryd.prog e 38 _ _ _) a w hm))
    obtain ⟨y2, hy2, h⟩ := call_ok h
    refine T_region [(2, { res := .tup [.d (.str y2.1), .d (.v (.int .i64 y2.2))] })] [0, 1, 5, 6, 1000000] [] [(0, .d (.sl 2 (a0.map cS_FilterStep))), (1, .d (.str a1)), (5, .d (.str y2.1)), (6, .d (.v (.int .i64 y2.2))), (1000000, .glo 0 (glob_filter_steps.flatMap (cI .u32)))] [(2, ACall Tryd.prog 16 [.d (.sl 2 (a0.map cS_FilterStep)), .d (.str a1)] [] (.tup [.d (.str y2.1), .d (.v (.int .i64 y2.2))]) [])] 5 (by kernel_rfl) (filter_Decode_ok hy2) ?_
    obtain ⟨y3, hy3, h⟩ := call_ok h
    refine T_region [(2, { res := .tup [.d (.str y3.1), .d (.v (.int .i64 y3.2))] })] [0, 5, 6, 7, 8, 1000000] [] [(0, .d (.sl 2 (a0.map cS_FilterStep))), (5, .d (.str y2.1)), (6, .d (.v (.int .i64 y2.2))), (7, .d (.str y3.1)), (8, .d (.v (.int .i64 y3.2))), (1000000, .glo 0 (glob_filter_steps.flatMap (cI .u32)))] [(2, ACall Tryd.prog 17 [.d (.sl 2 (a0.map cS_FilterStep)), .d (.str a1)] [] (.tup [.d (.str y3.1), .d (.v (.int .i64 y3.2))]) [])] 5 (by kernel_rfl) (ref3_Decoded_ok hy3) ?_
    obtain ⟨y4, hy4, h⟩ := call_ok h
    obtain ⟨y5, hy5, h⟩ := call_ok h
    refine T_region [(10, { res := .d (.v (.int .i64 y4)) }), (12, { res := .d (.v (.int .i64 y5)) })] [4, 1000000] [] [(4, .d (.v (.bool (bif (bif (y2.2 == y3.2) then (y2.1 == y3.1) else false) then (y4 == y5) else false)))), (1000000, .glo 0 (glob_filter_steps.flatMap (cI .u32)))] [(4, ((((y2.2 == y3.2) == true) && true) = true → True)), (0, ((((y2.2 == y3.2) == true) && true) = true → True)), (0, ((((y2.2 == y3.2) == true) && true) = true → True)), (2, ((((bif (y2.2 == y3.2) then (y2.1 == y3.1) else false) == true) && true) = true → True)), (0, ((((bif (y2.2 == y3.2) then (y2.1 == y3.1) else false) == true) && true) = true → ACall Tryd.prog 18 [.d (.sl 2 (a0.map cS_FilterStep))] [] (.d (.v (.int .i64 y4))) [])), (0, ((((bif (y2.2 == y3.2) then (y2.1 == y3.1) else false) == true) && true) = true → True)), (0, ((((bif (y2.2 == y3.2) then (y2.1 == y3.1) else false) == true) && true) = true → ACall Tryd.prog 19 [.d (.sl 2 (a0.map cS_FilterStep))] [] (.d (.v (.int .i64 y5))) [])), (0, ((((bif (y2.2 == y3.2) then (y2.1 == y3.1) else false) == true) && true) = true → True))] 2 (by kernel_rfl) (⟨(fun hg => trivial), (fun hg => trivial), (fun hg => trivial), (fun hg => trivial), (fun hg => filter_Check_ok (gcall_ok hg hy4)), (fun hg => trivial), (fun hg => ref3_StepError_ok (gcall_ok hg hy5)), (fun hg => trivial)⟩) ?_
    obtain hs := Option.some.inj h; subst hs
    refine T_ret fun a w hm => T_return (fr' := [(4, .d (.v (.bool (bif (bif (y2.2 == y3.2) then (y2.1 == y3.1) else false) then (y4 == y5) else false)))), (1000000, .glo 0 (glob_filter_steps.flatMap (cI .u32)))]) [4] (by kernel_rfl) [.keep [4, 1000000]] (by kernel_rfl) (by kernel_rfl) (by kernel_rfl) (by show _ = _; kernel_rfl) (by exact ⟨⟨by kernel_rfl, by kernel_rfl⟩, trivial⟩) a w hm

theorem ref3_Stepped_ok {F : Nat} {a0 : Int} {a1 : Bool} {r : Int} (h : ref3_Stepped F a0 a1 = some r) : ACall Tryd.prog 60 [.d (.v (.int .u32 a0)), .d (.v (.bool a1))] [] (.d (.v (.int .u32 r))) [] := by
  rw [ref3_Stepped] at h
  refine ACall.intro (N := 17) Tryd.func60 rfl rfl rfl rfl rfl fun e => ?_
  refine T_region [] [0, 1] [] [(0, .d (.v (.int .u32 a0))), (1, .d (.v (.bool a1)))] [] 1 (by kernel_rfl) (trivial) ?_
  refine T_region [] [0, 1, 5] [] [(0, .d (.v (.int .u32 a0))), (1, .d (.v (.bool a1))), (5, .d (.v (.int .u32 (IntKind.u32.wrap ((IntKind.u32.wrap (a0.tdiv (2 : Int))) + (0 : Int))))))] [(1, (2 : Int) ≠ 0)] 2 (by kernel_rfl) ((show (2 : Int) ≠ 0 by decide)) ?_
  refine T_seqk ?_
  refine T_region [] [5, 13] [] [(5, .d (.v (.int .u32 (IntKind.u32.wrap ((IntKind.u32.wrap (a0.tdiv (2 : Int))) + (0 : Int)))))), (13, .d (.v (.bool (!(((a0.tmod (2 : Int)) == (1 : Int)) == a1)))))] [(1, (2 : Int) ≠ 0)] 3 (by kernel_rfl) ((show (2 : Int) ≠ 0 by decide)) ?_
  refine T_cond (!(((a0.tmod (2 : Int)) == (1 : Int)) == a1)) (by kernel_rfl) (fun hc => ?_) (fun hc => ?_)
  · have h := cond_tt hc h
    obtain ⟨z1, hz1, h⟩ := lett_ok h
    refine T_region [(1, { rw := some (.d (.v (.int .u32 z1))) })] [4] [] [(4, .d (.v (.int .u32 z1)))] [(1, (True) ∧ AV.d (.v (.int .u32 (IntKind.u32.wrap ((BitVec.ofInt IntKind.u32.bits (IntKind.u32.wrap ((IntKind.u32.wrap (a0.tdiv (2 : Int))) + (0 : Int))) ^^^ BitVec.ofInt IntKind.u32.bits (3988292384 : Int)).toNat : Int)))) = .d (.v (.int .u32 z1)))] 1 (by kernel_rfl) (⟨trivial, (by subst hz1; rfl)⟩) ?_
    obtain hs := Option.some.inj h; subst hs
    refine T_ret fun a w hm => then_ret (T_return (fr' := [(4, .d (.v (.int .u32 z1)))]) [4] (by kernel_rfl) [.keep [4]] (by kernel_rfl) (by kernel_rfl) (by kernel_rfl) (by show _ = _; kernel_rfl) (by exact trivial) a w hm)
  · have h := cond_ff hc h
    refine T_skip fun a w hm => then_norm (((?_ : T Tryd.prog e 17 _ _ _) a w hm))
    refine T_region [] [4] [] [(4, .d (.v (.int .u32 (IntKind.u32.wrap ((IntKind.u32.wrap (a0.tdiv (2 : Int))) + (0 : Int))))))] [] 2 (by kernel_rfl) (trivial) ?_
    obtain hs := Option.some.inj h; subst hs
    refine T_ret fun a w hm => T_return (fr' := [(4, .d (.v (.int .u32 (IntKind.u32.wrap ((IntKind.u32.wrap (a0.tdiv (2 : Int))) + (0 : Int))))))]) [4] (by kernel_rfl) [.keep [4]] (by kernel_rfl) (by kernel_rfl) (by kernel_rfl) (by show _ = _; kernel_rfl) (by exact trivial) a w hm

end Go.Vm.FilG
