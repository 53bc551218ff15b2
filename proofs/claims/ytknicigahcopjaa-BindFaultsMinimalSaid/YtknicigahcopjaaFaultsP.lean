import Derived.Test.YtknicigahcopjaaProg
import Derived.Test.YtknicigahcopjaaFaultsF
namespace Go.Vm.GenC5
open Go.Proofs
theorem mixed : Try.prog.follows .mixedOrders = true := by kernel_rfl
theorem f25_ok {F : Nat} {a0 : List Int} {r : Int} (h : f25 F a0 = some r) : ACall Try.prog 25 [.d (.sl 1 (a0.map (cI .i64)))] [] (.d (.v (.int .i64 r))) [] := by
  rw [f25] at h
  refine ACall.intro (N := 25) Try.func25 rfl rfl rfl rfl rfl fun e => ?_
  refine T_region [] [0] [] [(0, .d (.sl 1 (a0.map (cI .i64))))] [] 1 (by kernel_rfl) (trivial) ?_
  refine T_seqk ?_
  refine T_region [(1, { rw := some (.d (.v (.int .i64 (a0.length : Int)))) })] [0, 7] [] [(0, .d (.sl 1 (a0.map (cI .i64)))), (7, .d (.v (.bool (decide ((a0.length : Int) < (1 : Int))))))] [(1, True ∧ AV.d (.v (.int .i64 ((a0.map (cI .i64)).length : Int))) = .d (.v (.int .i64 (a0.length : Int))))] 1 (by kernel_rfl) (len_ok (cI .i64)) ?_
  refine T_cond (decide ((a0.length : Int) < (1 : Int))) (by kernel_rfl) (fun hc => ?_) (fun hc => ?_)
  · have h := cond_tt hc h
    cases h
  · have h := cond_ff hc h
    refine T_skip fun a w hm => then_norm (((?_ : T Try.prog e 25 _ _ _) a w hm))
    obtain ⟨hp1, h⟩ := chk_ok h
    refine T_region [(1, { cs := (cI .i64) (a0.getD (0 : Int).toNat 0) })] [0, 3] [] [(0, .d (.sl 1 (a0.map (cI .i64)))), (3, .d (.v (.int .i64 (a0.getD (0 : Int).toNat 0))))] [(1, 0 ≤ (0 : Int) ∧ (a0.map (cI .i64))[(0 : Int).toNat]? = some ((cI .i64) (a0.getD (0 : Int).toNat 0)))] 2 (by kernel_rfl) (idx_ok (d := 0) (cI .i64) hp1) ?_
    refine T_seqk ?_
    refine T_region [] [0, 3, 4] [] [(0, .d (.sl 1 (a0.map (cI .i64)))), (3, .d (.v (.int .i64 (a0.getD (0 : Int).toNat 0)))), (4, .d (.v (.int .i64 (1 : Int))))] [] 1 (by kernel_rfl) (trivial) ?_
    refine T_joinct h (fun (p : Int) => [(3, .d (.v (.int .i64 p)))]) (fun s h => ?_) (fun v3 h => ?_)
    · refine T_co [.keep [0, 3, 4]] ((fun (p : Int × Int) => [(0, .d (.sl 1 (a0.map (cI .i64)))), (3, .d (.v (.int .i64 p.1))), (4, .d (.v (.int .i64 p.2)))]) ((a0.getD (0 : Int).toNat 0), (1 : Int))) (by show _ = _; kernel_rfl) ?_
      refine T_block ?_
      refine T_loopF (ι := Int × Int) (fun (p : Int × Int) => [(0, .d (.sl 1 (a0.map (cI .i64)))), (3, .d (.v (.int .i64 p.1))), (4, .d (.v (.int .i64 p.2)))]) (fun n p => f25_L0 F a0 n p.1 p.2 = some s) (fun i hh => by simp [f25_L0] at hh) (fun n p h => ?_) F ((a0.getD (0 : Int).toNat 0), (1 : Int)) h
      obtain ⟨v1, v2⟩ := p
      have h : f25_L0 F a0 (n + 1) v1 v2 = some s := h
      rw [f25_L0] at h
      refine T_seqk ?_
      refine T_region [(2, { rw := some (.d (.v (.int .i64 (a0.length : Int)))) })] [0, 3, 4, 15] [] [(0, .d (.sl 1 (a0.map (cI .i64)))), (3, .d (.v (.int .i64 v1))), (4, .d (.v (.int .i64 v2))), (15, .d (.v (.bool (decide (v2 < (a0.length : Int))))))] [(2, True ∧ AV.d (.v (.int .i64 ((a0.map (cI .i64)).length : Int))) = .d (.v (.int .i64 (a0.length : Int))))] 1 (by kernel_rfl) (len_ok (cI .i64)) ?_
      refine T_cond (decide (v2 < (a0.length : Int))) (by kernel_rfl) (fun hc => ?_) (fun hc => ?_)
      · have h := cond_tt hc h
        refine T_skip fun a w hm => then_norm (((?_ : T Try.prog e 25 _ _ _) a w hm))
        refine T_seqk ?_
        refine T_block ?_
        obtain ⟨hp2, h⟩ := chk_ok h
        refine T_region_end [(3, { cs := (cI .i64) (a0.getD v2.toNat 0) })] [0, 3, 4] [] [(0, .d (.sl 1 (a0.map (cI .i64)))), (3, .d (.v (.int .i64 (if v1 < (a0.getD v2.toNat 0) then (a0.getD v2.toNat 0) else v1)))), (4, .d (.v (.int .i64 v2)))] [(3, 0 ≤ v2 ∧ (a0.map (cI .i64))[v2.toNat]? = some ((cI .i64) (a0.getD v2.toNat 0)))] 3 (by kernel_rfl) (idx_ok (d := 0) (cI .i64) hp2) fun a w hm => inBlock_norm (then_norm (((?_ : T Try.prog e 25 _ _ _) a w hm)))
        refine T_region_end [] [0, 3, 4] [] [(0, .d (.sl 1 (a0.map (cI .i64)))), (3, .d (.v (.int .i64 (if v1 < (a0.getD v2.toNat 0) then (a0.getD v2.toNat 0) else v1)))), (4, .d (.v (.int .i64 (IntKind.i64.wrap (v2 + (1 : Int))))))] [] 3 (by kernel_rfl) (trivial) fun a w hm => then_norm (⟨((if v1 < (a0.getD v2.toNat 0) then (a0.getD v2.toNat 0) else v1), IntKind.i64.wrap (v2 + (1 : Int))), h, hm.co (cs := [.keep [0, 3, 4]]) (by show _ = _; kernel_rfl)⟩)
      · have h := cond_ff hc h
        obtain hs := Option.some.inj h; subst hs
        refine T_exit fun a w hm => then_exit (then_exit (inBlock_exit (then_norm (hm.co (cs := [.keep [3]]) (by show _ = _; kernel_rfl)))))
    · skip
      refine fun a w hm => then_norm (((?_ : T Try.prog e 25 _ _ _) a w hm))
      refine T_region [] [2] [] [(2, .d (.v (.int .i64 v3)))] [] 2 (by kernel_rfl) (trivial) ?_
      obtain hs := Option.some.inj h; subst hs
      refine T_ret fun a w hm => T_return (fr' := [(2, .d (.v (.int .i64 v3)))]) [2] (by kernel_rfl) [.keep [2]] (by kernel_rfl) (by kernel_rfl) (by kernel_rfl) (by show _ = _; kernel_rfl) (by exact trivial) a w hm

theorem f19_ok {F : Nat} {a0 : List Int} {r : (List Int)} (h : f19 F a0 = some r) : ACall Try.prog 19 [.d (.sl 1 (a0.map (cI .i64)))] [] (.own 1 (r.map (cI .i64))) [] := by
  rw [f19] at h
  refine ACall.intro (N := 96) Try.func19 rfl rfl rfl rfl rfl fun e => ?_
  refine T_region [] [0] [] [(0, .d (.sl 1 (a0.map (cI .i64))))] [] 1 (by kernel_rfl) (trivial) ?_
  refine T_region [(1, { rw := some (.d (.v (.int .i64 (a0.length : Int)))) })] [0, 3] [] [(0, .d (.sl 1 (a0.map (cI .i64)))), (3, .d (.v (.int .i64 (a0.length : Int))))] [(1, True ∧ AV.d (.v (.int .i64 ((a0.map (cI .i64)).length : Int))) = .d (.v (.int .i64 (a0.length : Int))))] 1 (by kernel_rfl) (len_ok (cI .i64)) ?_
  obtain ⟨hp1, h⟩ := chk_ok h
  refine T_region [(2, { es := some ((List.replicate (IntKind.i64.wrap ((a0.length : Int) + (1 : Int))).toNat 0).map (cI .i64)) })] [0, 3, 4] [] [(0, .d (.sl 1 (a0.map (cI .i64)))), (3, .d (.v (.int .i64 (a0.length : Int)))), (4, .own 1 ((List.replicate (IntKind.i64.wrap ((a0.length : Int) + (1 : Int))).toNat 0).map (cI .i64)))] [(2, (0 ≤ (IntKind.i64.wrap ((a0.length : Int) + (1 : Int))) ∧ (IntKind.i64.wrap ((a0.length : Int) + (1 : Int))) ≤ (IntKind.i64.wrap ((a0.length : Int) + (1 : Int))) ∧ (IntKind.i64.wrap ((a0.length : Int) + (1 : Int))) ≤ 9223372036854775807 ∧ ((8 : Nat) : Int) * (IntKind.i64.wrap ((a0.length : Int) + (1 : Int))) ≤ 281474976710656) ∧ List.replicate (IntKind.i64.wrap ((a0.length : Int) + (1 : Int))).toNat ((cI .i64) 0) = ((List.replicate (IntKind.i64.wrap ((a0.length : Int) + (1 : Int))).toNat 0).map (cI .i64)))] 1 (by kernel_rfl) (⟨hp1, repl_ok (cI .i64) rfl⟩) ?_
  refine T_seqk ?_
  refine T_region [] [0, 3, 4, 5] [] [(0, .d (.sl 1 (a0.map (cI .i64)))), (3, .d (.v (.int .i64 (a0.length : Int)))), (4, .own 1 ((List.replicate (IntKind.i64.wrap ((a0.length : Int) + (1 : Int))).toNat 0).map (cI .i64))), (5, .d (.v (.int .i64 (IntKind.i64.wrap ((a0.length : Int) - (1 : Int))))))] [] 3 (by kernel_rfl) (trivial) ?_
  refine T_joinct h (fun (p : (List Int)) => [(0, .d (.sl 1 (a0.map (cI .i64)))), (3, .d (.v (.int .i64 (a0.length : Int)))), (4, .own 1 (p.map (cI .i64)))]) (fun s h => ?_) (fun v7 h => ?_)
  · refine T_co [.keep [0, 3, 4, 5]] ((fun (p : (List Int) × Int) => [(0, .d (.sl 1 (a0.map (cI .i64)))), (3, .d (.v (.int .i64 (a0.length : Int)))), (4, .own 1 (p.1.map (cI .i64))), (5, .d (.v (.int .i64 p.2)))]) ((List.replicate (IntKind.i64.wrap ((a0.length : Int) + (1 : Int))).toNat 0), IntKind.i64.wrap ((a0.length : Int) - (1 : Int)))) (by show _ = _; kernel_rfl) ?_
    refine T_block ?_
    refine T_loopF (ι := (List Int) × Int) (fun (p : (List Int) × Int) => [(0, .d (.sl 1 (a0.map (cI .i64)))), (3, .d (.v (.int .i64 (a0.length : Int)))), (4, .own 1 (p.1.map (cI .i64))), (5, .d (.v (.int .i64 p.2)))]) (fun n p => f19_L0 F a0 n p.1 p.2 = some s) (fun i hh => by simp [f19_L0] at hh) (fun n p h => ?_) F ((List.replicate (IntKind.i64.wrap ((a0.length : Int) + (1 : Int))).toNat 0), IntKind.i64.wrap ((a0.length : Int) - (1 : Int))) h
    obtain ⟨v5, v1⟩ := p
    have h : f19_L0 F a0 (n + 1) v5 v1 = some s := h
    rw [f19_L0] at h
    refine T_seqk ?_
    refine T_region [] [0, 3, 4, 5, 18] [] [(0, .d (.sl 1 (a0.map (cI .i64)))), (3, .d (.v (.int .i64 (a0.length : Int)))), (4, .own 1 (v5.map (cI .i64))), (5, .d (.v (.int .i64 v1))), (18, .d (.v (.bool (decide (v1 ≥ (0 : Int))))))] [] 2 (by kernel_rfl) (trivial) ?_
    refine T_cond (decide (v1 ≥ (0 : Int))) (by kernel_rfl) (fun hc => ?_) (fun hc => ?_)
    · have h := cond_tt hc h
      refine T_skip fun a w hm => then_norm (((?_ : T Try.prog e 96 _ _ _) a w hm))
      refine T_seqk ?_
      refine T_block ?_
      refine T_seqk ?_
      refine T_region [] [0, 3, 4, 5, 6] [] [(0, .d (.sl 1 (a0.map (cI .i64)))), (3, .d (.v (.int .i64 (a0.length : Int)))), (4, .own 1 (v5.map (cI .i64))), (5, .d (.v (.int .i64 v1))), (6, .d (.v (.int .i64 (IntKind.i64.wrap (v1 + (1 : Int))))))] [] 3 (by kernel_rfl) (trivial) ?_
      refine T_joinct h (fun (p : (List Int)) => [(0, .d (.sl 1 (a0.map (cI .i64)))), (3, .d (.v (.int .i64 (a0.length : Int)))), (4, .own 1 (p.map (cI .i64))), (5, .d (.v (.int .i64 v1)))]) (fun s h => ?_) (fun v6 h => ?_)
      · refine T_co [.keep [0, 3, 4, 5, 6]] ((fun (p : (List Int) × Int) => [(0, .d (.sl 1 (a0.map (cI .i64)))), (3, .d (.v (.int .i64 (a0.length : Int)))), (4, .own 1 (p.1.map (cI .i64))), (5, .d (.v (.int .i64 v1))), (6, .d (.v (.int .i64 p.2)))]) (v5, IntKind.i64.wrap (v1 + (1 : Int)))) (by show _ = _; kernel_rfl) ?_
        refine T_block ?_
        refine T_loopF (ι := (List Int) × Int) (fun (p : (List Int) × Int) => [(0, .d (.sl 1 (a0.map (cI .i64)))), (3, .d (.v (.int .i64 (a0.length : Int)))), (4, .own 1 (p.1.map (cI .i64))), (5, .d (.v (.int .i64 v1))), (6, .d (.v (.int .i64 p.2)))]) (fun n p => f19_L2 F a0 v1 n p.1 p.2 = some s) (fun i hh => by simp [f19_L2] at hh) (fun n p h => ?_) F (v5, IntKind.i64.wrap (v1 + (1 : Int))) h
        obtain ⟨v2, v3⟩ := p
        have h : f19_L2 F a0 v1 (n + 1) v2 v3 = some s := h
        rw [f19_L2] at h
        refine T_seqk ?_
        refine T_region [] [0, 3, 4, 5, 6, 25] [] [(0, .d (.sl 1 (a0.map (cI .i64)))), (3, .d (.v (.int .i64 (a0.length : Int)))), (4, .own 1 (v2.map (cI .i64))), (5, .d (.v (.int .i64 v1))), (6, .d (.v (.int .i64 v3))), (25, .d (.v (.bool (decide (v3 < (a0.length : Int))))))] [] 3 (by kernel_rfl) (trivial) ?_
        refine T_cond (decide (v3 < (a0.length : Int))) (by kernel_rfl) (fun hc => ?_) (fun hc => ?_)
        · have h := cond_tt hc h
          refine T_skip fun a w hm => then_norm (((?_ : T Try.prog e 96 _ _ _) a w hm))
          refine T_joinc h (fun (p : (List Int)) => [(0, .d (.sl 1 (a0.map (cI .i64)))), (3, .d (.v (.int .i64 (a0.length : Int)))), (4, .own 1 (p.map (cI .i64))), (5, .d (.v (.int .i64 v1))), (6, .d (.v (.int .i64 v3)))]) (fun s h => ?_) (fun v4 h => ?_)
          · refine T_block ?_
            obtain ⟨hp2, h⟩ := chk_ok h
            obtain ⟨hp3, h⟩ := chk_ok h
            refine T_draw mixed [(2, { cs := (cI .i64) (a0.getD v3.toNat 0) }), (6, { cs := (cI .i64) (a0.getD v1.toNat 0) })] [0, 3, 4, 5, 6, 36] [] [(0, .d (.sl 1 (a0.map (cI .i64)))), (3, .d (.v (.int .i64 (a0.length : Int)))), (4, .own 1 (v2.map (cI .i64))), (5, .d (.v (.int .i64 v1))), (6, .d (.v (.int .i64 v3))), (36, .d (.v (.bool (decide ((a0.getD v3.toNat 0) > (a0.getD v1.toNat 0))))))] [(2, 0 ≤ v3 ∧ (a0.map (cI .i64))[v3.toNat]? = some ((cI .i64) (a0.getD v3.toNat 0))), (3, 0 ≤ v1 ∧ (a0.map (cI .i64))[v1.toNat]? = some ((cI .i64) (a0.getD v1.toNat 0)))] 2 (by kernel_rfl) (⟨idx_ok (d := 0) (cI .i64) hp2, idx_ok (d := 0) (cI .i64) hp3⟩) ?_
            refine T_cond (decide ((a0.getD v3.toNat 0) > (a0.getD v1.toNat 0))) (by kernel_rfl) (fun hc => ?_) (fun hc => ?_)
            · have h := cond_tt hc h
              obtain ⟨hp4, h⟩ := chk_ok h
              obtain ⟨hp5, h⟩ := chk_ok h
              obtain ⟨z1, hz1, h⟩ := lett_ok h
              obtain ⟨hp6, h⟩ := chk_ok h
              obtain hs := Option.some.inj h; subst hs
              refine T_drawS_end mixed 12 [(5, { cs := (cI .i64) (v2.getD v1.toNat 0) }), (9, { cs := (cI .i64) (v2.getD v3.toNat 0) }), (10, { rw := some (.d (.v (.int .i64 z1))) }), (12, { cs := (cI .i64) (v2.getD v1.toNat 0), es := some ((v2.set v1.toNat z1).map (cI .i64)) })] [0, 3, 4, 5, 6] [] [(0, .d (.sl 1 (a0.map (cI .i64)))), (3, .d (.v (.int .i64 (a0.length : Int)))), (4, .own 1 ((v2.set v1.toNat z1).map (cI .i64))), (5, .d (.v (.int .i64 v1))), (6, .d (.v (.int .i64 v3)))] [(4, 0 ≤ v1 ∧ v1 < (v2.map (cI .i64)).length), (0, (v2.map (cI .i64))[v1.toNat]? = some ((cI .i64) (v2.getD v1.toNat 0))), (2, 0 ≤ v3 ∧ v3 < (v2.map (cI .i64)).length), (0, (v2.map (cI .i64))[v3.toNat]? = some ((cI .i64) (v2.getD v3.toNat 0))), (0, (True) ∧ AV.d (.v (.int .i64 (if (v2.getD v1.toNat 0) < (v2.getD v3.toNat 0) then (v2.getD v3.toNat 0) else (v2.getD v1.toNat 0)))) = .d (.v (.int .i64 z1))), (0, 0 ≤ v1 ∧ v1 < (v2.map (cI .i64)).length), (0, (v2.map (cI .i64))[v1.toNat]? = some ((cI .i64) (v2.getD v1.toNat 0)) ∧ (v2.map (cI .i64)).set v1.toNat ((cI .i64) z1) = ((v2.set v1.toNat z1).map (cI .i64)))] 0 (by kernel_rfl) (⟨own_idx (cI .i64) hp4, (idx_ok (d := 0) (cI .i64) hp4).2, own_idx (cI .i64) hp5, (idx_ok (d := 0) (cI .i64) hp5).2, ⟨trivial, (by subst hz1; rfl)⟩, own_idx (cI .i64) hp6, ⟨(idx_ok (d := 0) (cI .i64) hp6).2, set_ok (cI .i64) rfl⟩⟩) fun a w hm => inBlock_norm (then_norm (hm.co (cs := [.keep [0, 3, 4, 5, 6]]) (by show _ = _; kernel_rfl)))
            · have h := cond_ff hc h
              obtain hs := Option.some.inj h; subst hs
              refine T_skip fun a w hm => inBlock_norm (then_norm (hm.co (cs := [.keep [0, 3, 4, 5, 6]]) (by show _ = _; kernel_rfl)))
          · skip
            refine T_region_end [] [0, 3, 4, 5, 6] [] [(0, .d (.sl 1 (a0.map (cI .i64)))), (3, .d (.v (.int .i64 (a0.length : Int)))), (4, .own 1 (v4.map (cI .i64))), (5, .d (.v (.int .i64 v1))), (6, .d (.v (.int .i64 (IntKind.i64.wrap (v3 + (1 : Int))))))] [] 3 (by kernel_rfl) (trivial) fun a w hm => then_norm (⟨(v4, IntKind.i64.wrap (v3 + (1 : Int))), h, hm.co (cs := [.keep [0, 3, 4, 5, 6]]) (by show _ = _; kernel_rfl)⟩)
        · have h := cond_ff hc h
          obtain hs := Option.some.inj h; subst hs
          refine T_exit fun a w hm => then_exit (then_exit (inBlock_exit (then_norm (hm.co (cs := [.keep [0, 3, 4, 5]]) (by show _ = _; kernel_rfl)))))
      · skip
        refine fun a w hm => then_norm (((?_ : T Try.prog e 96 _ _ _) a w hm))
        obtain ⟨hp7, h⟩ := chk_ok h
        obtain ⟨hp8, h⟩ := chk_ok h
        refine T_region_end [(3, { cs := (cI .i64) (v6.getD v1.toNat 0) }), (6, { cs := (cI .i64) (v6.getD v1.toNat 0), es := some ((v6.set v1.toNat (IntKind.i64.wrap ((v6.getD v1.toNat 0) + (1 : Int)))).map (cI .i64)) })] [0, 3, 4, 5] [] [(0, .d (.sl 1 (a0.map (cI .i64)))), (3, .d (.v (.int .i64 (a0.length : Int)))), (4, .own 1 ((v6.set v1.toNat (IntKind.i64.wrap ((v6.getD v1.toNat 0) + (1 : Int)))).map (cI .i64))), (5, .d (.v (.int .i64 v1)))] [(2, 0 ≤ v1 ∧ v1 < (v6.map (cI .i64)).length), (0, (v6.map (cI .i64))[v1.toNat]? = some ((cI .i64) (v6.getD v1.toNat 0))), (1, 0 ≤ v1 ∧ v1 < (v6.map (cI .i64)).length), (0, (v6.map (cI .i64))[v1.toNat]? = some ((cI .i64) (v6.getD v1.toNat 0)) ∧ (v6.map (cI .i64)).set v1.toNat ((cI .i64) (IntKind.i64.wrap ((v6.getD v1.toNat 0) + (1 : Int)))) = ((v6.set v1.toNat (IntKind.i64.wrap ((v6.getD v1.toNat 0) + (1 : Int)))).map (cI .i64)))] 0 (by kernel_rfl) (⟨own_idx (cI .i64) hp7, (idx_ok (d := 0) (cI .i64) hp7).2, own_idx (cI .i64) hp8, ⟨(idx_ok (d := 0) (cI .i64) hp8).2, set_ok (cI .i64) rfl⟩⟩) fun a w hm => inBlock_norm (then_norm (((?_ : T Try.prog e 96 _ _ _) a w hm)))
        refine T_region_end [] [0, 3, 4, 5] [] [(0, .d (.sl 1 (a0.map (cI .i64)))), (3, .d (.v (.int .i64 (a0.length : Int)))), (4, .own 1 ((v6.set v1.toNat (IntKind.i64.wrap ((v6.getD v1.toNat 0) + (1 : Int)))).map (cI .i64))), (5, .d (.v (.int .i64 (IntKind.i64.wrap (v1 - (1 : Int))))))] [] 3 (by kernel_rfl) (trivial) fun a w hm => then_norm (⟨((v6.set v1.toNat (IntKind.i64.wrap ((v6.getD v1.toNat 0) + (1 : Int)))), IntKind.i64.wrap (v1 - (1 : Int))), h, hm.co (cs := [.keep [0, 3, 4, 5]]) (by show _ = _; kernel_rfl)⟩)
    · have h := cond_ff hc h
      obtain hs := Option.some.inj h; subst hs
      refine T_exit fun a w hm => then_exit (then_exit (inBlock_exit (then_norm (hm.co (cs := [.keep [0, 3, 4]]) (by show _ = _; kernel_rfl)))))
  · skip
    refine fun a w hm => then_norm (((?_ : T Try.prog e 96 _ _ _) a w hm))
    refine T_region [] [0, 3, 4, 7] [] [(0, .d (.sl 1 (a0.map (cI .i64)))), (3, .d (.v (.int .i64 (a0.length : Int)))), (4, .own 1 (v7.map (cI .i64))), (7, .own 1 ([].map (cI .i64)))] [] 1 (by kernel_rfl) (trivial) ?_
    refine T_seqk ?_
    obtain ⟨y1, hy1, h⟩ := call_ok h
    refine T_region [(1, { res := .d (.v (.int .i64 y1)) })] [0, 3, 4, 7, 8, 9] [] [(0, .d (.sl 1 (a0.map (cI .i64)))), (3, .d (.v (.int .i64 (a0.length : Int)))), (4, .own 1 (v7.map (cI .i64))), (7, .own 1 ([].map (cI .i64))), (8, .d (.v (.int .i64 y1))), (9, .d (.v (.int .i64 (0 : Int))))] [(1, ACall Try.prog 25 [.d (.sl 1 (v7.map (cI .i64)))] [] (.d (.v (.int .i64 y1))) [])] 2 (by kernel_rfl) (f25_ok hy1) ?_
    refine T_joinct h (fun (p : (List Int)) => [(7, .own 1 (p.map (cI .i64)))]) (fun s h => ?_) (fun v13 h => ?_)
    · refine T_co [.keep [0, 3, 4, 7, 8, 9]] ((fun (p : (List Int) × Int × Int) => [(0, .d (.sl 1 (a0.map (cI .i64)))), (3, .d (.v (.int .i64 (a0.length : Int)))), (4, .own 1 (v7.map (cI .i64))), (7, .own 1 (p.1.map (cI .i64))), (8, .d (.v (.int .i64 p.2.1))), (9, .d (.v (.int .i64 p.2.2)))]) ([], y1, (0 : Int))) (by show _ = _; kernel_rfl) ?_
      refine T_block ?_
      refine T_loopF (ι := (List Int) × Int × Int) (fun (p : (List Int) × Int × Int) => [(0, .d (.sl 1 (a0.map (cI .i64)))), (3, .d (.v (.int .i64 (a0.length : Int)))), (4, .own 1 (v7.map (cI .i64))), (7, .own 1 (p.1.map (cI .i64))), (8, .d (.v (.int .i64 p.2.1))), (9, .d (.v (.int .i64 p.2.2)))]) (fun n p => f19_L4 F a0 v7 n p.1 p.2.1 p.2.2 = some s) (fun i hh => by simp [f19_L4] at hh) (fun n p h => ?_) F ([], y1, (0 : Int)) h
      obtain ⟨v8, v9, v10⟩ := p
      have h : f19_L4 F a0 v7 (n + 1) v8 v9 v10 = some s := h
      rw [f19_L4] at h
      refine T_seqk ?_
      refine T_region [] [0, 3, 4, 7, 8, 9, 59] [] [(0, .d (.sl 1 (a0.map (cI .i64)))), (3, .d (.v (.int .i64 (a0.length : Int)))), (4, .own 1 (v7.map (cI .i64))), (7, .own 1 (v8.map (cI .i64))), (8, .d (.v (.int .i64 v9))), (9, .d (.v (.int .i64 v10))), (59, .d (.v (.bool (decide (v10 < (a0.length : Int))))))] [] 3 (by kernel_rfl) (trivial) ?_
      refine T_cond (decide (v10 < (a0.length : Int))) (by kernel_rfl) (fun hc => ?_) (fun hc => ?_)
      · have h := cond_tt hc h
        refine T_skip fun a w hm => then_norm (((?_ : T Try.prog e 96 _ _ _) a w hm))
        refine T_joinc h (fun (p : (List Int) × Int) => [(0, .d (.sl 1 (a0.map (cI .i64)))), (3, .d (.v (.int .i64 (a0.length : Int)))), (4, .own 1 (v7.map (cI .i64))), (7, .own 1 (p.1.map (cI .i64))), (8, .d (.v (.int .i64 p.2))), (9, .d (.v (.int .i64 v10)))]) (fun s h => ?_) (fun s h => ?_)
        · refine T_block ?_
          obtain ⟨hp9, h⟩ := chk_ok h
          obtain ⟨hp10, h⟩ := chk_ok h
          obtain ⟨hp11, h⟩ := chk_ok h
          obtain ⟨hp12, h⟩ := chk_ok h
          obtain ⟨z2, hz2, h⟩ := lett_ok h
          obtain ⟨z3, hz3, h⟩ := lett_ok h
          refine T_draw mixed [(3, { cs := (cI .i64) (v7.getD v10.toNat 0) }), (8, { rw := some (.d (.v (.int .i64 (v8.length : Int)))) }), (13, { cs := (cI .i64) (a0.getD v10.toNat 0) }), (18, { rw := some (.d (.v (.int .i64 (v8.length : Int)))) }), (21, { cs := (cI .i64) (v8.getD (IntKind.i64.wrap ((v8.length : Int) - (1 : Int))).toNat 0) }), (22, { cs := (cI .i64) (a0.getD (v8.getD (IntKind.i64.wrap ((v8.length : Int) - (1 : Int))).toNat 0).toNat 0) }), (24, { rw := some (.d (.v (.bool z2))) }), (26, { rw := some (.d (.v (.bool z3))) })] [0, 3, 4, 7, 8, 9, 88] [] [(0, .d (.sl 1 (a0.map (cI .i64)))), (3, .d (.v (.int .i64 (a0.length : Int)))), (4, .own 1 (v7.map (cI .i64))), (7, .own 1 (v8.map (cI .i64))), (8, .d (.v (.int .i64 v9))), (9, .d (.v (.int .i64 v10))), (88, .d (.v (.bool z3)))] [(2, 0 ≤ v10 ∧ v10 < (v7.map (cI .i64)).length), (0, (v7.map (cI .i64))[v10.toNat]? = some ((cI .i64) (v7.getD v10.toNat 0))), (3, (((((v7.getD v10.toNat 0) == v9) == true) && true) = true → True)), (0, (((((v7.getD v10.toNat 0) == v9) == true) && true) = true → True ∧ AV.d (.v (.int .i64 ((v8.map (cI .i64)).length : Int))) = .d (.v (.int .i64 (v8.length : Int))))), (0, (((((v7.getD v10.toNat 0) == v9) == true) && true) = true → True)), (0, (((((v7.getD v10.toNat 0) == v9) == true) && true) = true → True)), (0, (((((v8.length : Int) == (0 : Int)) == false) && ((((v7.getD v10.toNat 0) == v9) == true) && true)) = true → True)), (0, (((((v8.length : Int) == (0 : Int)) == false) && ((((v7.getD v10.toNat 0) == v9) == true) && true)) = true → True)), (0, (((((v8.length : Int) == (0 : Int)) == false) && ((((v7.getD v10.toNat 0) == v9) == true) && true)) = true → 0 ≤ v10 ∧ (a0.map (cI .i64))[v10.toNat]? = some ((cI .i64) (a0.getD v10.toNat 0)))), (0, (((((v8.length : Int) == (0 : Int)) == false) && ((((v7.getD v10.toNat 0) == v9) == true) && true)) = true → True)), (0, (((((v8.length : Int) == (0 : Int)) == false) && ((((v7.getD v10.toNat 0) == v9) == true) && true)) = true → True)), (0, (((((v8.length : Int) == (0 : Int)) == false) && ((((v7.getD v10.toNat 0) == v9) == true) && true)) = true → True)), (0, (((((v8.length : Int) == (0 : Int)) == false) && ((((v7.getD v10.toNat 0) == v9) == true) && true)) = true → True)), (0, (((((v8.length : Int) == (0 : Int)) == false) && ((((v7.getD v10.toNat 0) == v9) == true) && true)) = true → True ∧ AV.d (.v (.int .i64 ((v8.map (cI .i64)).length : Int))) = .d (.v (.int .i64 (v8.length : Int))))), (0, (((((v8.length : Int) == (0 : Int)) == false) && ((((v7.getD v10.toNat 0) == v9) == true) && true)) = true → True)), (0, (((((v8.length : Int) == (0 : Int)) == false) && ((((v7.getD v10.toNat 0) == v9) == true) && true)) = true → 0 ≤ (IntKind.i64.wrap ((v8.length : Int) - (1 : Int))) ∧ (IntKind.i64.wrap ((v8.length : Int) - (1 : Int))) < (v8.map (cI .i64)).length)), (0, (((((v8.length : Int) == (0 : Int)) == false) && ((((v7.getD v10.toNat 0) == v9) == true) && true)) = true → (v8.map (cI .i64))[(IntKind.i64.wrap ((v8.length : Int) - (1 : Int))).toNat]? = some ((cI .i64) (v8.getD (IntKind.i64.wrap ((v8.length : Int) - (1 : Int))).toNat 0)))), (0, (((((v8.length : Int) == (0 : Int)) == false) && ((((v7.getD v10.toNat 0) == v9) == true) && true)) = true → 0 ≤ (v8.getD (IntKind.i64.wrap ((v8.length : Int) - (1 : Int))).toNat 0) ∧ (a0.map (cI .i64))[(v8.getD (IntKind.i64.wrap ((v8.length : Int) - (1 : Int))).toNat 0).toNat]? = some ((cI .i64) (a0.getD (v8.getD (IntKind.i64.wrap ((v8.length : Int) - (1 : Int))).toNat 0).toNat 0)))), (0, (((((v8.length : Int) == (0 : Int)) == false) && ((((v7.getD v10.toNat 0) == v9) == true) && true)) = true → True)), (0, (((((v8.length : Int) == (0 : Int)) == false) && ((((v7.getD v10.toNat 0) == v9) == true) && true)) = true → (True) ∧ AV.d (.v (.bool (decide ((a0.getD v10.toNat 0) > (a0.getD (v8.getD (IntKind.i64.wrap ((v8.length : Int) - (1 : Int))).toNat 0).toNat 0))))) = .d (.v (.bool z2)))), (0, (((((v7.getD v10.toNat 0) == v9) == true) && true) = true → True)), (0, (True) ∧ AV.d (.v (.bool (bif ((v7.getD v10.toNat 0) == v9) then (bif ((v8.length : Int) == (0 : Int)) then true else z2) else false))) = .d (.v (.bool z3)))] 0 (by kernel_rfl) (⟨own_idx (cI .i64) hp9, (idx_ok (d := 0) (cI .i64) hp9).2, (fun hg => trivial), (fun hg => len_ok (cI .i64)), (fun hg => trivial), (fun hg => trivial), (fun hg => trivial), (fun hg => trivial), (fun hg => idx_ok (d := 0) (cI .i64) (hp10 hg)), (fun hg => trivial), (fun hg => trivial), (fun hg => trivial), (fun hg => trivial), (fun hg => len_ok (cI .i64)), (fun hg => trivial), (fun hg => own_idx (cI .i64) (hp11 hg)), (fun hg => (idx_ok (d := 0) (cI .i64) (hp11 hg)).2), (fun hg => idx_ok (d := 0) (cI .i64) (hp12 hg)), (fun hg => trivial), (fun hg => ⟨trivial, (by subst hz2; rfl)⟩), (fun hg => trivial), ⟨trivial, (by subst hz3; rfl)⟩⟩) ?_
          refine T_cond z3 (by kernel_rfl) (fun hc => ?_) (fun hc => ?_)
          · have h := cond_tt hc h
            obtain ⟨hp13, h⟩ := chk_ok h
            refine T_region [(2, { es := some (([v10]).map (cI .i64)) }), (3, { es := some ((v8 ++ ([v10])).map (cI .i64)) })] [0, 3, 4, 7, 8, 9] [] [(0, .d (.sl 1 (a0.map (cI .i64)))), (3, .d (.v (.int .i64 (a0.length : Int)))), (4, .own 1 (v7.map (cI .i64))), (7, .own 1 ((v8 ++ ([v10])).map (cI .i64))), (8, .d (.v (.int .i64 v9))), (9, .d (.v (.int .i64 v10)))] [(2, (([v10]).map (cI .i64)) = (([v10]).map (cI .i64))), (0, (v8.map (cI .i64)).length + (([v10]).map (cI .i64)).length ≤ 4294967296 ∧ (v8.map (cI .i64)) ++ (([v10]).map (cI .i64)) = ((v8 ++ ([v10])).map (cI .i64)))] 1 (by kernel_rfl) (⟨rfl, app_ok (cI .i64) hp13⟩) ?_
            obtain hs := Option.some.inj h; subst hs
            refine T_region_end [] [0, 3, 4, 7, 8, 9] [] [(0, .d (.sl 1 (a0.map (cI .i64)))), (3, .d (.v (.int .i64 (a0.length : Int)))), (4, .own 1 (v7.map (cI .i64))), (7, .own 1 ((v8 ++ ([v10])).map (cI .i64))), (8, .d (.v (.int .i64 (IntKind.i64.wrap (v9 - (1 : Int)))))), (9, .d (.v (.int .i64 v10)))] [] 3 (by kernel_rfl) (trivial) fun a w hm => inBlock_norm (then_norm (hm.co (cs := [.keep [0, 3, 4, 7, 8, 9]]) (by show _ = _; kernel_rfl)))
          · have h := cond_ff hc h
            obtain hs := Option.some.inj h; subst hs
            refine T_skip fun a w hm => inBlock_norm (then_norm (hm.co (cs := [.keep [0, 3, 4, 7, 8, 9]]) (by show _ = _; kernel_rfl)))
        · obtain ⟨v11, v12⟩ := s
          try dsimp only at h
          refine T_region_end [] [0, 3, 4, 7, 8, 9] [] [(0, .d (.sl 1 (a0.map (cI .i64)))), (3, .d (.v (.int .i64 (a0.length : Int)))), (4, .own 1 (v7.map (cI .i64))), (7, .own 1 (v11.map (cI .i64))), (8, .d (.v (.int .i64 v12))), (9, .d (.v (.int .i64 (IntKind.i64.wrap (v10 + (1 : Int))))))] [] 3 (by kernel_rfl) (trivial) fun a w hm => then_norm (⟨(v11, v12, IntKind.i64.wrap (v10 + (1 : Int))), h, hm.co (cs := [.keep [0, 3, 4, 7, 8, 9]]) (by show _ = _; kernel_rfl)⟩)
      · have h := cond_ff hc h
        obtain hs := Option.some.inj h; subst hs
        refine T_exit fun a w hm => then_exit (then_exit (inBlock_exit (then_norm (hm.co (cs := [.keep [7]]) (by show _ = _; kernel_rfl)))))
    · skip
      refine fun a w hm => then_norm (((?_ : T Try.prog e 96 _ _ _) a w hm))
      refine T_region [] [2, 7] [] [(2, .vw (7, 0)), (7, .own 1 (v13.map (cI .i64)))] [] 2 (by kernel_rfl) (trivial) ?_
      obtain hs := Option.some.inj h; subst hs
      refine T_ret fun a w hm => T_return (fr' := [(2, .own 1 (v13.map (cI .i64)))]) [2] (by kernel_rfl) [.claim 2, .keep [2]] (by kernel_rfl) (by kernel_rfl) (by kernel_rfl) (by show _ = _; kernel_rfl) (by exact trivial) a w hm

theorem f23_ok {F : Nat} {a0 : List Int} {a1 : Int} {r : Int} (h : f23 F a0 a1 = some r) : ACall Try.prog 23 [.d (.sl 1 (a0.map (cI .i64))), .d (.v (.int .i64 a1))] [] (.d (.v (.int .i64 r))) [] := by
  rw [f23] at h
  refine ACall.intro (N := 19) Try.func23 rfl rfl rfl rfl rfl fun e => ?_
  refine T_region [] [0, 1] [] [(0, .d (.sl 1 (a0.map (cI .i64)))), (1, .d (.v (.int .i64 a1)))] [] 1 (by kernel_rfl) (trivial) ?_
  refine T_seqk ?_
  refine T_region [(1, { rw := some (.d (.v (.int .i64 (a0.length : Int)))) })] [0, 1, 7, 8] [] [(0, .d (.sl 1 (a0.map (cI .i64)))), (1, .d (.v (.int .i64 a1))), (7, .d (.v (.int .i64 (a0.length : Int)))), (8, .d (.v (.int .i64 (0 : Int))))] [(1, True ∧ AV.d (.v (.int .i64 ((a0.map (cI .i64)).length : Int))) = .d (.v (.int .i64 (a0.length : Int))))] 1 (by kernel_rfl) (len_ok (cI .i64)) ?_
  refine T_joinEt h (fun (p : Unit) => []) (fun s h hk1 => ?_) (fun s h => ?_)
  · refine T_co [.keep [0, 1, 7, 8]] ((fun (p : Int) => [(0, .d (.sl 1 (a0.map (cI .i64)))), (1, .d (.v (.int .i64 a1))), (7, .d (.v (.int .i64 (a0.length : Int)))), (8, .d (.v (.int .i64 p)))]) (0 : Int)) (by show _ = _; kernel_rfl) ?_
    refine T_block ?_
    refine T_loopF (ι := Int) (fun (p : Int) => [(0, .d (.sl 1 (a0.map (cI .i64)))), (1, .d (.v (.int .i64 a1))), (7, .d (.v (.int .i64 (a0.length : Int)))), (8, .d (.v (.int .i64 p)))]) (fun n p => f23_L0 F a0 a1 n p = some s) (fun i hh => by simp [f23_L0] at hh) (fun n v1 h => ?_) F (0 : Int) h
    have h : f23_L0 F a0 a1 (n + 1) v1 = some s := h
    rw [f23_L0] at h
    refine T_region [] [0, 1, 7, 8, 9] [] [(0, .d (.sl 1 (a0.map (cI .i64)))), (1, .d (.v (.int .i64 a1))), (7, .d (.v (.int .i64 (a0.length : Int)))), (8, .d (.v (.int .i64 v1))), (9, .d (.v (.bool (decide (v1 < (a0.length : Int))))))] [] 1 (by kernel_rfl) (trivial) ?_
    refine T_seqk ?_
    refine T_cond (decide (v1 < (a0.length : Int))) (by kernel_rfl) (fun hc => ?_) (fun hc => ?_)
    · have h := cond_tt hc h
      refine T_skip fun a w hm => then_norm (((?_ : T Try.prog e 19 _ _ _) a w hm))
      refine T_seqk ?_
      refine T_block ?_
      refine T_region [] [0, 1, 5, 7, 8] [] [(0, .d (.sl 1 (a0.map (cI .i64)))), (1, .d (.v (.int .i64 a1))), (5, .d (.v (.int .i64 v1))), (7, .d (.v (.int .i64 (a0.length : Int)))), (8, .d (.v (.int .i64 v1)))] [] 2 (by kernel_rfl) (trivial) ?_
      obtain ⟨hp1, h⟩ := chk_ok h
      refine T_region [(3, { cs := (cI .i64) (a0.getD v1.toNat 0) })] [0, 1, 5, 7, 8, 16] [] [(0, .d (.sl 1 (a0.map (cI .i64)))), (1, .d (.v (.int .i64 a1))), (5, .d (.v (.int .i64 v1))), (7, .d (.v (.int .i64 (a0.length : Int)))), (8, .d (.v (.int .i64 v1))), (16, .d (.v (.bool (a1 == (a0.getD v1.toNat 0)))))] [(3, 0 ≤ v1 ∧ (a0.map (cI .i64))[v1.toNat]? = some ((cI .i64) (a0.getD v1.toNat 0)))] 2 (by kernel_rfl) (idx_ok (d := 0) (cI .i64) hp1) ?_
      refine T_cond (a1 == (a0.getD v1.toNat 0)) (by kernel_rfl) (fun hc => ?_) (fun hc => ?_)
      · have h := cond_tt hc h
        refine T_region [] [4] [] [(4, .d (.v (.int .i64 v1)))] [] 2 (by kernel_rfl) (trivial) ?_
        obtain hs := Option.some.inj h; subst hs
        have h := callE_esc hk1
        obtain hs := Option.some.inj h; subst hs
        refine T_ret fun a w hm => inBlock_ret (then_ret (then_ret (inBlock_ret (then_ret (then_ret (T_return (fr' := [(4, .d (.v (.int .i64 v1)))]) [4] (by kernel_rfl) [.keep [4]] (by kernel_rfl) (by kernel_rfl) (by kernel_rfl) (by show _ = _; kernel_rfl) (by exact trivial) a w hm))))))
      · have h := cond_ff hc h
        refine T_skip fun a w hm => inBlock_norm (then_norm (((?_ : T Try.prog e 19 _ _ _) a w hm)))
        refine T_region_end [] [0, 1, 7, 8] [] [(0, .d (.sl 1 (a0.map (cI .i64)))), (1, .d (.v (.int .i64 a1))), (7, .d (.v (.int .i64 (a0.length : Int)))), (8, .d (.v (.int .i64 (IntKind.i64.wrap (v1 + (1 : Int))))))] [] 2 (by kernel_rfl) (trivial) fun a w hm => then_norm (⟨IntKind.i64.wrap (v1 + (1 : Int)), h, hm.co (cs := [.keep [0, 1, 7, 8]]) (by show _ = _; kernel_rfl)⟩)
    · have h := cond_ff hc h
      obtain hs := Option.some.inj h; subst hs
      refine T_exit fun a w hm => then_exit (then_exit (inBlock_exit (then_norm (⟨_, rfl, hm.co (cs := [.keep []]) (by show _ = _; kernel_rfl)⟩))))
  · skip
    refine fun a w hm => then_norm (((?_ : T Try.prog e 19 _ _ _) a w hm))
    refine T_region [] [4] [] [(4, .d (.v (.int .i64 (-1 : Int))))] [] 1 (by kernel_rfl) (trivial) ?_
    obtain hs := Option.some.inj h; subst hs
    refine T_ret fun a w hm => T_return (fr' := [(4, .d (.v (.int .i64 (-1 : Int))))]) [4] (by kernel_rfl) [.keep [4]] (by kernel_rfl) (by kernel_rfl) (by kernel_rfl) (by show _ = _; kernel_rfl) (by exact trivial) a w hm

theorem f16_ok {F : Nat} {a0 : List Int} {a1 : Int} {r : Bool} (h : f16 F a0 a1 = some r) : ACall Try.prog 16 [.d (.sl 1 (a0.map (cI .i64))), .d (.v (.int .i64 a1))] [] (.d (.v (.bool r))) [] := by
  rw [f16] at h
  refine ACall.intro (N := 9) Try.func16 rfl rfl rfl rfl rfl fun e => ?_
  refine T_region [] [0, 1] [] [(0, .d (.sl 1 (a0.map (cI .i64)))), (1, .d (.v (.int .i64 a1)))] [] 1 (by kernel_rfl) (trivial) ?_
  obtain ⟨y1, hy1, h⟩ := call_ok h
  refine T_region [(2, { res := .d (.v (.int .i64 y1)) })] [4] [] [(4, .d (.v (.bool (decide (y1 ≥ (0 : Int))))))] [(2, ACall Try.prog 23 [.d (.sl 1 (a0.map (cI .i64))), .d (.v (.int .i64 a1))] [] (.d (.v (.int .i64 y1))) [])] 2 (by kernel_rfl) (f23_ok hy1) ?_
  obtain hs := Option.some.inj h; subst hs
  refine T_ret fun a w hm => T_return (fr' := [(4, .d (.v (.bool (decide (y1 ≥ (0 : Int))))))]) [4] (by kernel_rfl) [.keep [4]] (by kernel_rfl) (by kernel_rfl) (by kernel_rfl) (by show _ = _; kernel_rfl) (by exact trivial) a w hm

theorem f20_ok {F : Nat} {a0 : Int} {c1 : List Int} {c2 : Int} {r : Bool × (List Int) × Int} (h : f20 F a0 c1 c2 = some r) : ACall Try.prog 20 [.d (.v (.int .i64 a0)), .bp 1000000 0, .bp 1000001 0] [[.d (.sl 1 (c1.map (cI .i64)))], [.d (.v (.int .i64 c2))]] (.d (.v (.bool r.1))) [[.d (.sl 1 (r.2.1.map (cI .i64)))], [.d (.v (.int .i64 r.2.2))]] := by
  rw [f20] at h
  refine ACall.intro (N := 11) Try.func20 rfl rfl rfl rfl rfl fun e => ?_
  refine T_region [] [0, 1, 2, 1000000, 1000001] [] [(0, .d (.v (.int .i64 a0))), (1, .bp 1000000 0), (2, .bp 1000001 0), (1000000, .box [.d (.sl 1 (c1.map (cI .i64)))]), (1000001, .box [.d (.v (.int .i64 c2))])] [] 1 (by kernel_rfl) (trivial) ?_
  obtain ⟨hp1, h⟩ := chk_ok h
  refine T_draw mixed [(2, { cs := (cI .i64) (c1.getD a0.toNat 0) })] [4, 1000000, 1000001] [] [(4, .d (.v (.bool ((c1.getD a0.toNat 0) == c2)))), (1000000, .box [.d (.sl 1 (c1.map (cI .i64)))]), (1000001, .box [.d (.v (.int .i64 c2))])] [(2, 0 ≤ a0 ∧ (c1.map (cI .i64))[a0.toNat]? = some ((cI .i64) (c1.getD a0.toNat 0)))] 4 (by kernel_rfl) (idx_ok (d := 0) (cI .i64) hp1) ?_
  obtain hs := Option.some.inj h; subst hs
  refine T_ret fun a w hm => T_return (fr' := [(4, .d (.v (.bool ((c1.getD a0.toNat 0) == c2)))), (1000000, .box [.d (.sl 1 (c1.map (cI .i64)))]), (1000001, .box [.d (.v (.int .i64 c2))])]) [4] (by kernel_rfl) [.keep [4, 1000000, 1000001]] (by kernel_rfl) (by kernel_rfl) (by kernel_rfl) (by show _ = _; kernel_rfl) (by exact ⟨⟨by kernel_rfl, by kernel_rfl⟩, ⟨⟨by kernel_rfl, by kernel_rfl⟩, trivial⟩⟩) a w hm

theorem f21_ok {F : Nat} {a0 : List Int} {c1 : List Int} {c2 : Int} {r : Int × (List Int) × Int} (h : f21 F a0 c1 c2 = some r) : ACall Try.prog 21 [.d (.sl 1 (a0.map (cI .i64))), .clo 20 [.bp 1000000 0, .bp 1000001 0]] [[.d (.sl 1 (c1.map (cI .i64)))], [.d (.v (.int .i64 c2))]] (.d (.v (.int .i64 r.1))) [[.d (.sl 1 (r.2.1.map (cI .i64)))], [.d (.v (.int .i64 r.2.2))]] := by
  rw [f21] at h
  refine ACall.intro (N := 19) Try.func21 rfl rfl rfl rfl rfl fun e => ?_
  refine T_region [] [0, 1, 1000000, 1000001] [] [(0, .d (.sl 1 (a0.map (cI .i64)))), (1, .clo 20 [.bp 1000000 0, .bp 1000001 0]), (1000000, .box [.d (.sl 1 (c1.map (cI .i64)))]), (1000001, .box [.d (.v (.int .i64 c2))])] [] 1 (by kernel_rfl) (trivial) ?_
  refine T_seqk ?_
  refine T_region [(1, { rw := some (.d (.v (.int .i64 (a0.length : Int)))) })] [0, 1, 7, 8, 1000000, 1000001] [] [(0, .d (.sl 1 (a0.map (cI .i64)))), (1, .clo 20 [.bp 1000000 0, .bp 1000001 0]), (7, .d (.v (.int .i64 (a0.length : Int)))), (8, .d (.v (.int .i64 (0 : Int)))), (1000000, .box [.d (.sl 1 (c1.map (cI .i64)))]), (1000001, .box [.d (.v (.int .i64 c2))])] [(1, True ∧ AV.d (.v (.int .i64 ((a0.map (cI .i64)).length : Int))) = .d (.v (.int .i64 (a0.length : Int))))] 1 (by kernel_rfl) (len_ok (cI .i64)) ?_
  refine T_joinEt h (fun (p : (List Int) × Int) => [(1000000, .box [.d (.sl 1 (p.1.map (cI .i64)))]), (1000001, .box [.d (.v (.int .i64 p.2))])]) (fun s h hk1 => ?_) (fun s h => ?_)
  · refine T_co [.keep [0, 1, 7, 8, 1000000, 1000001]] ((fun (p : Int × (List Int) × Int) => [(0, .d (.sl 1 (a0.map (cI .i64)))), (1, .clo 20 [.bp 1000000 0, .bp 1000001 0]), (7, .d (.v (.int .i64 (a0.length : Int)))), (8, .d (.v (.int .i64 p.1))), (1000000, .box [.d (.sl 1 (p.2.1.map (cI .i64)))]), (1000001, .box [.d (.v (.int .i64 p.2.2))])]) ((0 : Int), c1, c2)) (by show _ = _; kernel_rfl) ?_
    refine T_block ?_
    refine T_loopF (ι := Int × (List Int) × Int) (fun (p : Int × (List Int) × Int) => [(0, .d (.sl 1 (a0.map (cI .i64)))), (1, .clo 20 [.bp 1000000 0, .bp 1000001 0]), (7, .d (.v (.int .i64 (a0.length : Int)))), (8, .d (.v (.int .i64 p.1))), (1000000, .box [.d (.sl 1 (p.2.1.map (cI .i64)))]), (1000001, .box [.d (.v (.int .i64 p.2.2))])]) (fun n p => f21_L0 F a0 n p.1 p.2.1 p.2.2 = some s) (fun i hh => by simp [f21_L0] at hh) (fun n p h => ?_) F ((0 : Int), c1, c2) h
    obtain ⟨v1, v2, v3⟩ := p
    have h : f21_L0 F a0 (n + 1) v1 v2 v3 = some s := h
    rw [f21_L0] at h
    refine T_region [] [0, 1, 7, 8, 9, 1000000, 1000001] [] [(0, .d (.sl 1 (a0.map (cI .i64)))), (1, .clo 20 [.bp 1000000 0, .bp 1000001 0]), (7, .d (.v (.int .i64 (a0.length : Int)))), (8, .d (.v (.int .i64 v1))), (9, .d (.v (.bool (decide (v1 < (a0.length : Int)))))), (1000000, .box [.d (.sl 1 (v2.map (cI .i64)))]), (1000001, .box [.d (.v (.int .i64 v3))])] [] 1 (by kernel_rfl) (trivial) ?_
    refine T_seqk ?_
    refine T_cond (decide (v1 < (a0.length : Int))) (by kernel_rfl) (fun hc => ?_) (fun hc => ?_)
    · have h := cond_tt hc h
      refine T_skip fun a w hm => then_norm (((?_ : T Try.prog e 19 _ _ _) a w hm))
      refine T_seqk ?_
      refine T_block ?_
      refine T_region [] [0, 1, 5, 7, 8, 1000000, 1000001] [] [(0, .d (.sl 1 (a0.map (cI .i64)))), (1, .clo 20 [.bp 1000000 0, .bp 1000001 0]), (5, .d (.v (.int .i64 v1))), (7, .d (.v (.int .i64 (a0.length : Int)))), (8, .d (.v (.int .i64 v1))), (1000000, .box [.d (.sl 1 (v2.map (cI .i64)))]), (1000001, .box [.d (.v (.int .i64 v3))])] [] 2 (by kernel_rfl) (trivial) ?_
      obtain ⟨hp1, h⟩ := chk_ok h
      obtain ⟨y1, hy1, h⟩ := call_ok h
      refine T_region [(3, { cs := (cI .i64) (a0.getD v1.toNat 0) }), (5, { res := .d (.v (.bool y1.1)), vout := [[.d (.sl 1 (y1.2.1.map (cI .i64)))], [.d (.v (.int .i64 y1.2.2))]], xs := [1000000, 1000001] })] [0, 1, 5, 7, 8, 16, 1000000, 1000001] [] [(0, .d (.sl 1 (a0.map (cI .i64)))), (1, .clo 20 [.bp 1000000 0, .bp 1000001 0]), (5, .d (.v (.int .i64 v1))), (7, .d (.v (.int .i64 (a0.length : Int)))), (8, .d (.v (.int .i64 v1))), (16, .d (.v (.bool y1.1))), (1000000, .box [.d (.sl 1 (y1.2.1.map (cI .i64)))]), (1000001, .box [.d (.v (.int .i64 y1.2.2))])] [(3, 0 ≤ v1 ∧ (a0.map (cI .i64))[v1.toNat]? = some ((cI .i64) (a0.getD v1.toNat 0))), (1, ACall Try.prog 20 [.d (.v (.int .i64 (a0.getD v1.toNat 0))), .bp 1000000 0, .bp 1000001 0] [[.d (.sl 1 (v2.map (cI .i64)))], [.d (.v (.int .i64 v3))]] (.d (.v (.bool y1.1))) [[.d (.sl 1 (y1.2.1.map (cI .i64)))], [.d (.v (.int .i64 y1.2.2))]])] 0 (by kernel_rfl) (⟨idx_ok (d := 0) (cI .i64) hp1, f20_ok hy1⟩) ?_
      refine T_cond y1.1 (by kernel_rfl) (fun hc => ?_) (fun hc => ?_)
      · have h := cond_tt hc h
        refine T_region [] [4, 1000000, 1000001] [] [(4, .d (.v (.int .i64 v1))), (1000000, .box [.d (.sl 1 (y1.2.1.map (cI .i64)))]), (1000001, .box [.d (.v (.int .i64 y1.2.2))])] [] 2 (by kernel_rfl) (trivial) ?_
        obtain hs := Option.some.inj h; subst hs
        have h := callE_esc hk1
        obtain hs := Option.some.inj h; subst hs
        refine T_ret fun a w hm => inBlock_ret (then_ret (then_ret (inBlock_ret (then_ret (then_ret (T_return (fr' := [(4, .d (.v (.int .i64 v1))), (1000000, .box [.d (.sl 1 (y1.2.1.map (cI .i64)))]), (1000001, .box [.d (.v (.int .i64 y1.2.2))])]) [4] (by kernel_rfl) [.keep [4, 1000000, 1000001]] (by kernel_rfl) (by kernel_rfl) (by kernel_rfl) (by show _ = _; kernel_rfl) (by exact ⟨⟨by kernel_rfl, by kernel_rfl⟩, ⟨⟨by kernel_rfl, by kernel_rfl⟩, trivial⟩⟩) a w hm))))))
      · have h := cond_ff hc h
        refine T_skip fun a w hm => inBlock_norm (then_norm (((?_ : T Try.prog e 19 _ _ _) a w hm)))
        refine T_region_end [] [0, 1, 7, 8, 1000000, 1000001] [] [(0, .d (.sl 1 (a0.map (cI .i64)))), (1, .clo 20 [.bp 1000000 0, .bp 1000001 0]), (7, .d (.v (.int .i64 (a0.length : Int)))), (8, .d (.v (.int .i64 (IntKind.i64.wrap (v1 + (1 : Int)))))), (1000000, .box [.d (.sl 1 (y1.2.1.map (cI .i64)))]), (1000001, .box [.d (.v (.int .i64 y1.2.2))])] [] 2 (by kernel_rfl) (trivial) fun a w hm => then_norm (⟨(IntKind.i64.wrap (v1 + (1 : Int)), y1.2.1, y1.2.2), h, hm.co (cs := [.keep [0, 1, 7, 8, 1000000, 1000001]]) (by show _ = _; kernel_rfl)⟩)
    · have h := cond_ff hc h
      obtain hs := Option.some.inj h; subst hs
      refine T_exit fun a w hm => then_exit (then_exit (inBlock_exit (then_norm (⟨_, rfl, hm.co (cs := [.keep [1000000, 1000001]]) (by show _ = _; kernel_rfl)⟩))))
  · obtain ⟨v4, v5⟩ := s
    try dsimp only at h
    refine fun a w hm => then_norm (((?_ : T Try.prog e 19 _ _ _) a w hm))
    refine T_region [] [4, 1000000, 1000001] [] [(4, .d (.v (.int .i64 (-1 : Int)))), (1000000, .box [.d (.sl 1 (v4.map (cI .i64)))]), (1000001, .box [.d (.v (.int .i64 v5))])] [] 1 (by kernel_rfl) (trivial) ?_
    obtain hs := Option.some.inj h; subst hs
    refine T_ret fun a w hm => T_return (fr' := [(4, .d (.v (.int .i64 (-1 : Int)))), (1000000, .box [.d (.sl 1 (v4.map (cI .i64)))]), (1000001, .box [.d (.v (.int .i64 v5))])]) [4] (by kernel_rfl) [.keep [4, 1000000, 1000001]] (by kernel_rfl) (by kernel_rfl) (by kernel_rfl) (by show _ = _; kernel_rfl) (by exact ⟨⟨by kernel_rfl, by kernel_rfl⟩, ⟨⟨by kernel_rfl, by kernel_rfl⟩, trivial⟩⟩) a w hm

theorem f13_ok {F : Nat} {a0 : List Int} {c1 : List Int} {c2 : Int} {r : Bool × (List Int) × Int} (h : f13 F a0 c1 c2 = some r) : ACall Try.prog 13 [.d (.sl 1 (a0.map (cI .i64))), .clo 20 [.bp 1000000 0, .bp 1000001 0]] [[.d (.sl 1 (c1.map (cI .i64)))], [.d (.v (.int .i64 c2))]] (.d (.v (.bool r.1))) [[.d (.sl 1 (r.2.1.map (cI .i64)))], [.d (.v (.int .i64 r.2.2))]] := by
  rw [f13] at h
  refine ACall.intro (N := 9) Try.func13 rfl rfl rfl rfl rfl fun e => ?_
  refine T_region [] [0, 1, 1000000, 1000001] [] [(0, .d (.sl 1 (a0.map (cI .i64)))), (1, .clo 20 [.bp 1000000 0, .bp 1000001 0]), (1000000, .box [.d (.sl 1 (c1.map (cI .i64)))]), (1000001, .box [.d (.v (.int .i64 c2))])] [] 1 (by kernel_rfl) (trivial) ?_
  obtain ⟨y1, hy1, h⟩ := call_ok h
  refine T_region [(2, { res := .d (.v (.int .i64 y1.1)), vout := [[.d (.sl 1 (y1.2.1.map (cI .i64)))], [.d (.v (.int .i64 y1.2.2))]], xs := [1000000, 1000001] })] [4, 1000000, 1000001] [] [(4, .d (.v (.bool (decide (y1.1 ≥ (0 : Int)))))), (1000000, .box [.d (.sl 1 (y1.2.1.map (cI .i64)))]), (1000001, .box [.d (.v (.int .i64 y1.2.2))])] [(2, ACall Try.prog 21 [.d (.sl 1 (a0.map (cI .i64))), .clo 20 [.bp 1000000 0, .bp 1000001 0]] [[.d (.sl 1 (c1.map (cI .i64)))], [.d (.v (.int .i64 c2))]] (.d (.v (.int .i64 y1.1))) [[.d (.sl 1 (y1.2.1.map (cI .i64)))], [.d (.v (.int .i64 y1.2.2))]])] 2 (by kernel_rfl) (f21_ok hy1) ?_
  obtain hs := Option.some.inj h; subst hs
  refine T_ret fun a w hm => T_return (fr' := [(4, .d (.v (.bool (decide (y1.1 ≥ (0 : Int)))))), (1000000, .box [.d (.sl 1 (y1.2.1.map (cI .i64)))]), (1000001, .box [.d (.v (.int .i64 y1.2.2))])]) [4] (by kernel_rfl) [.keep [4, 1000000, 1000001]] (by kernel_rfl) (by kernel_rfl) (by kernel_rfl) (by show _ = _; kernel_rfl) (by exact ⟨⟨by kernel_rfl, by kernel_rfl⟩, ⟨⟨by kernel_rfl, by kernel_rfl⟩, trivial⟩⟩) a w hm

theorem f12_ok {F : Nat} {a0 : List Int} {a1 : Int} {r : S35 × Int} (h : f12 F a0 a1 = some r) : ACall Try.prog 12 [.d (.sl 1 (a0.map (cI .i64))), .d (.v (.int .i64 a1))] [] (.tup [.agg (cS35 r.1), .d (.v (.int .i64 r.2))]) [] := by
  rw [f12] at h
  refine ACall.intro (N := 93) Try.func12 rfl rfl rfl rfl rfl fun e => ?_
  refine T_region [] [1, 2, 4] [] [(1, .d (.v (.int .i64 a1))), (2, .box [.d (.sl 1 (a0.map (cI .i64)))]), (4, .box [.own 1 ([].map (cI .i64)), .own 1 ([].map (cI .i64)), .own 1 ([].map (cI .i64))])] [] 3 (by kernel_rfl) (trivial) ?_
  refine T_seqk ?_
  refine T_region [] [1, 2, 4, 20] [] [(1, .d (.v (.int .i64 a1))), (2, .box [.d (.sl 1 (a0.map (cI .i64)))]), (4, .box [.own 1 ([].map (cI .i64)), .own 1 ([].map (cI .i64)), .own 1 ([].map (cI .i64))]), (20, .d (.v (.bool (bif (decide (a1 < (1 : Int))) then true else (decide (a1 > (64 : Int)))))))] [(3, ((((decide (a1 < (1 : Int))) == false) && true) = true → True)), (0, ((((decide (a1 < (1 : Int))) == false) && true) = true → True))] 1 (by kernel_rfl) (⟨(fun hg => trivial), (fun hg => trivial)⟩) ?_
  refine T_cond (bif (decide (a1 < (1 : Int))) then true else (decide (a1 > (64 : Int)))) (by kernel_rfl) (fun hc => ?_) (fun hc => ?_)
  · have h := cond_tt hc h
    refine T_region [] [4, 5] [] [(4, .box [.d (.sl 1 (((S35.mk [] [] []).f0).map (cI .i64))), .d (.sl 1 (((S35.mk [] [] []).f1).map (cI .i64))), .d (.sl 1 (((S35.mk [] [] []).f2).map (cI .i64)))]), (5, .d (.v (.int .i64 (3 : Int))))] [] 3 (by kernel_rfl) (trivial) ?_
    obtain hs := Option.some.inj h; subst hs
    refine T_ret fun a w hm => then_ret (T_returnC (fr' := [(4, .box [.d (.sl 1 (((S35.mk [] [] []).f0).map (cI .i64))), .d (.sl 1 (((S35.mk [] [] []).f1).map (cI .i64))), .d (.sl 1 (((S35.mk [] [] []).f2).map (cI .i64)))]), (5, .d (.v (.int .i64 (3 : Int))))]) (ts := [93, 5]) (N' := 94) (fr2 := [(93, .agg (cS35 (S35.mk ((S35.mk [] [] []).f0) ((S35.mk [] [] []).f1) ((S35.mk [] [] []).f2))))] ++ [(4, .box [.d (.sl 1 (((S35.mk [] [] []).f0).map (cI .i64))), .d (.sl 1 (((S35.mk [] [] []).f1).map (cI .i64))), .d (.sl 1 (((S35.mk [] [] []).f2).map (cI .i64)))]), (5, .d (.v (.int .i64 (3 : Int))))]) [.keep [4, 5]] (by kernel_rfl) (by kernel_rfl) (by kernel_rfl) (by kernel_rfl) (by show _ = _; kernel_rfl) (by exact trivial) a w hm)
  · have h := cond_ff hc h
    refine T_skip fun a w hm => then_norm (((?_ : T Try.prog e 93 _ _ _) a w hm))
    refine T_seqk ?_
    refine T_region [(1, { rw := some (.d (.v (.int .i64 (a0.length : Int)))) })] [1, 2, 4, 24] [] [(1, .d (.v (.int .i64 a1))), (2, .box [.d (.sl 1 (a0.map (cI .i64)))]), (4, .box [.own 1 ([].map (cI .i64)), .own 1 ([].map (cI .i64)), .own 1 ([].map (cI .i64))]), (24, .d (.v (.bool (decide ((a0.length : Int) > (64 : Int))))))] [(1, True ∧ AV.d (.v (.int .i64 ((a0.map (cI .i64)).length : Int))) = .d (.v (.int .i64 (a0.length : Int))))] 1 (by kernel_rfl) (len_ok (cI .i64)) ?_
    refine T_cond (decide ((a0.length : Int) > (64 : Int))) (by kernel_rfl) (fun hc => ?_) (fun hc => ?_)
    · have h := cond_tt hc h
      refine T_region [] [4, 5] [] [(4, .box [.d (.sl 1 (((S35.mk [] [] []).f0).map (cI .i64))), .d (.sl 1 (((S35.mk [] [] []).f1).map (cI .i64))), .d (.sl 1 (((S35.mk [] [] []).f2).map (cI .i64)))]), (5, .d (.v (.int .i64 (2 : Int))))] [] 3 (by kernel_rfl) (trivial) ?_
      obtain hs := Option.some.inj h; subst hs
      refine T_ret fun a w hm => then_ret (T_returnC (fr' := [(4, .box [.d (.sl 1 (((S35.mk [] [] []).f0).map (cI .i64))), .d (.sl 1 (((S35.mk [] [] []).f1).map (cI .i64))), .d (.sl 1 (((S35.mk [] [] []).f2).map (cI .i64)))]), (5, .d (.v (.int .i64 (2 : Int))))]) (ts := [93, 5]) (N' := 94) (fr2 := [(93, .agg (cS35 (S35.mk ((S35.mk [] [] []).f0) ((S35.mk [] [] []).f1) ((S35.mk [] [] []).f2))))] ++ [(4, .box [.d (.sl 1 (((S35.mk [] [] []).f0).map (cI .i64))), .d (.sl 1 (((S35.mk [] [] []).f1).map (cI .i64))), .d (.sl 1 (((S35.mk [] [] []).f2).map (cI .i64)))]), (5, .d (.v (.int .i64 (2 : Int))))]) [.keep [4, 5]] (by kernel_rfl) (by kernel_rfl) (by kernel_rfl) (by kernel_rfl) (by show _ = _; kernel_rfl) (by exact trivial) a w hm)
    · have h := cond_ff hc h
      refine T_skip fun a w hm => then_norm (((?_ : T Try.prog e 93 _ _ _) a w hm))
      obtain ⟨hp1, h⟩ := chk_ok h
      refine T_region [(1, { es := some ((List.replicate a1.toNat false).map cB) })] [1, 2, 4, 6] [] [(1, .d (.v (.int .i64 a1))), (2, .box [.d (.sl 1 (a0.map (cI .i64)))]), (4, .box [.own 1 ([].map (cI .i64)), .own 1 ([].map (cI .i64)), .own 1 ([].map (cI .i64))]), (6, .own 1 ((List.replicate a1.toNat false).map cB))] [(1, (0 ≤ a1 ∧ a1 ≤ a1 ∧ a1 ≤ 9223372036854775807 ∧ ((1 : Nat) : Int) * a1 ≤ 281474976710656) ∧ List.replicate a1.toNat (cB false) = ((List.replicate a1.toNat false).map cB))] 1 (by kernel_rfl) (⟨hp1, repl_ok cB rfl⟩) ?_
      refine T_seqk ?_
      refine T_region [(1, { rw := some (.d (.v (.int .i64 (a0.length : Int)))) })] [1, 2, 4, 6, 28, 29, 30] [] [(1, .d (.v (.int .i64 a1))), (2, .box [.d (.sl 1 (a0.map (cI .i64)))]), (4, .box [.own 1 ([].map (cI .i64)), .own 1 ([].map (cI .i64)), .own 1 ([].map (cI .i64))]), (6, .own 1 ((List.replicate a1.toNat false).map cB)), (28, .d (.sl 1 (a0.map (cI .i64)))), (29, .d (.v (.int .i64 (a0.length : Int)))), (30, .d (.v (.int .i64 (0 : Int))))] [(1, True ∧ AV.d (.v (.int .i64 ((a0.map (cI .i64)).length : Int))) = .d (.v (.int .i64 (a0.length : Int))))] 1 (by kernel_rfl) (len_ok (cI .i64)) ?_
      refine T_joinEt h (fun (p : (List Bool)) => [(2, .box [.d (.sl 1 (a0.map (cI .i64)))]), (4, .box [.own 1 ([].map (cI .i64)), .own 1 ([].map (cI .i64)), .own 1 ([].map (cI .i64))]), (6, .own 1 (p.map cB))]) (fun s h hk1 => ?_) (fun v3 h => ?_)
      · refine T_co [.keep [1, 2, 4, 6, 28, 29, 30]] ((fun (p : (List Bool) × Int) => [(1, .d (.v (.int .i64 a1))), (2, .box [.d (.sl 1 (a0.map (cI .i64)))]), (4, .box [.own 1 ([].map (cI .i64)), .own 1 ([].map (cI .i64)), .own 1 ([].map (cI .i64))]), (6, .own 1 (p.1.map cB)), (28, .d (.sl 1 (a0.map (cI .i64)))), (29, .d (.v (.int .i64 (a0.length : Int)))), (30, .d (.v (.int .i64 p.2)))]) ((List.replicate a1.toNat false), (0 : Int))) (by show _ = _; kernel_rfl) ?_
        refine T_block ?_
        refine T_loopF (ι := (List Bool) × Int) (fun (p : (List Bool) × Int) => [(1, .d (.v (.int .i64 a1))), (2, .box [.d (.sl 1 (a0.map (cI .i64)))]), (4, .box [.own 1 ([].map (cI .i64)), .own 1 ([].map (cI .i64)), .own 1 ([].map (cI .i64))]), (6, .own 1 (p.1.map cB)), (28, .d (.sl 1 (a0.map (cI .i64)))), (29, .d (.v (.int .i64 (a0.length : Int)))), (30, .d (.v (.int .i64 p.2)))]) (fun n p => f12_L0 F a0 a1 n p.1 p.2 = some s) (fun i hh => by simp [f12_L0] at hh) (fun n p h => ?_) F ((List.replicate a1.toNat false), (0 : Int)) h
        obtain ⟨v1, v2⟩ := p
        have h : f12_L0 F a0 a1 (n + 1) v1 v2 = some s := h
        rw [f12_L0] at h
        refine T_region [] [1, 2, 4, 6, 28, 29, 30, 31] [] [(1, .d (.v (.int .i64 a1))), (2, .box [.d (.sl 1 (a0.map (cI .i64)))]), (4, .box [.own 1 ([].map (cI .i64)), .own 1 ([].map (cI .i64)), .own 1 ([].map (cI .i64))]), (6, .own 1 (v1.map cB)), (28, .d (.sl 1 (a0.map (cI .i64)))), (29, .d (.v (.int .i64 (a0.length : Int)))), (30, .d (.v (.int .i64 v2))), (31, .d (.v (.bool (decide (v2 < (a0.length : Int))))))] [] 1 (by kernel_rfl) (trivial) ?_
        refine T_seqk ?_
        refine T_cond (decide (v2 < (a0.length : Int))) (by kernel_rfl) (fun hc => ?_) (fun hc => ?_)
        · have h := cond_tt hc h
          refine T_skip fun a w hm => then_norm (((?_ : T Try.prog e 93 _ _ _) a w hm))
          refine T_seqk ?_
          refine T_block ?_
          obtain ⟨hp2, h⟩ := chk_ok h
          refine T_region [(0, { cs := (cI .i64) (a0.getD v2.toNat 0) })] [1, 2, 4, 6, 8, 28, 29, 30] [] [(1, .d (.v (.int .i64 a1))), (2, .box [.d (.sl 1 (a0.map (cI .i64)))]), (4, .box [.own 1 ([].map (cI .i64)), .own 1 ([].map (cI .i64)), .own 1 ([].map (cI .i64))]), (6, .own 1 (v1.map cB)), (8, .d (.v (.int .i64 (a0.getD v2.toNat 0)))), (28, .d (.sl 1 (a0.map (cI .i64)))), (29, .d (.v (.int .i64 (a0.length : Int)))), (30, .d (.v (.int .i64 v2)))] [(0, 0 ≤ v2 ∧ (a0.map (cI .i64))[v2.toNat]? = some ((cI .i64) (a0.getD v2.toNat 0)))] 2 (by kernel_rfl) (idx_ok (d := 0) (cI .i64) hp2) ?_
          refine T_seqk ?_
          obtain ⟨z1, hz1, h⟩ := lett_ok h
          refine T_region [(6, { rw := some (.d (.v (.bool z1))) })] [1, 2, 4, 6, 8, 28, 29, 30, 40] [] [(1, .d (.v (.int .i64 a1))), (2, .box [.d (.sl 1 (a0.map (cI .i64)))]), (4, .box [.own 1 ([].map (cI .i64)), .own 1 ([].map (cI .i64)), .own 1 ([].map (cI .i64))]), (6, .own 1 (v1.map cB)), (8, .d (.v (.int .i64 (a0.getD v2.toNat 0)))), (28, .d (.sl 1 (a0.map (cI .i64)))), (29, .d (.v (.int .i64 (a0.length : Int)))), (30, .d (.v (.int .i64 v2))), (40, .d (.v (.bool z1)))] [(3, ((((decide ((a0.getD v2.toNat 0) < (0 : Int))) == false) && true) = true → True)), (0, ((((decide ((a0.getD v2.toNat 0) < (0 : Int))) == false) && true) = true → True)), (0, ((((decide ((a0.getD v2.toNat 0) < (0 : Int))) == false) && true) = true → True)), (0, (True) ∧ AV.d (.v (.bool (bif (decide ((a0.getD v2.toNat 0) < (0 : Int))) then true else (decide ((a0.getD v2.toNat 0) ≥ a1))))) = .d (.v (.bool z1)))] 0 (by kernel_rfl) (⟨(fun hg => trivial), (fun hg => trivial), (fun hg => trivial), ⟨trivial, (by subst hz1; rfl)⟩⟩) ?_
          refine T_cond z1 (by kernel_rfl) (fun hc => ?_) (fun hc => ?_)
          · have h := cond_tt hc h
            refine T_region [] [4, 5] [] [(4, .box [.d (.sl 1 (((S35.mk [] [] []).f0).map (cI .i64))), .d (.sl 1 (((S35.mk [] [] []).f1).map (cI .i64))), .d (.sl 1 (((S35.mk [] [] []).f2).map (cI .i64)))]), (5, .d (.v (.int .i64 (3 : Int))))] [] 3 (by kernel_rfl) (trivial) ?_
            obtain hs := Option.some.inj h; subst hs
            have h := callE_esc hk1
            obtain hs := Option.some.inj h; subst hs
            refine T_ret fun a w hm => then_ret (inBlock_ret (then_ret (then_ret (inBlock_ret (then_ret (then_ret (T_returnC (fr' := [(4, .box [.d (.sl 1 (((S35.mk [] [] []).f0).map (cI .i64))), .d (.sl 1 (((S35.mk [] [] []).f1).map (cI .i64))), .d (.sl 1 (((S35.mk [] [] []).f2).map (cI .i64)))]), (5, .d (.v (.int .i64 (3 : Int))))]) (ts := [93, 5]) (N' := 94) (fr2 := [(93, .agg (cS35 (S35.mk ((S35.mk [] [] []).f0) ((S35.mk [] [] []).f1) ((S35.mk [] [] []).f2))))] ++ [(4, .box [.d (.sl 1 (((S35.mk [] [] []).f0).map (cI .i64))), .d (.sl 1 (((S35.mk [] [] []).f1).map (cI .i64))), .d (.sl 1 (((S35.mk [] [] []).f2).map (cI .i64)))]), (5, .d (.v (.int .i64 (3 : Int))))]) [.keep [4, 5]] (by kernel_rfl) (by kernel_rfl) (by kernel_rfl) (by kernel_rfl) (by show _ = _; kernel_rfl) (by exact trivial) a w hm)))))))
          · have h := cond_ff hc h
            refine T_skip fun a w hm => then_norm (((?_ : T Try.prog e 93 _ _ _) a w hm))
            obtain ⟨hp3, h⟩ := chk_ok h
            refine T_region_end [(3, { cs := cB (v1.getD (a0.getD v2.toNat 0).toNat false), es := some ((v1.set (a0.getD v2.toNat 0).toNat true).map cB) })] [1, 2, 4, 6, 28, 29, 30] [] [(1, .d (.v (.int .i64 a1))), (2, .box [.d (.sl 1 (a0.map (cI .i64)))]), (4, .box [.own 1 ([].map (cI .i64)), .own 1 ([].map (cI .i64)), .own 1 ([].map (cI .i64))]), (6, .own 1 ((v1.set (a0.getD v2.toNat 0).toNat true).map cB)), (28, .d (.sl 1 (a0.map (cI .i64)))), (29, .d (.v (.int .i64 (a0.length : Int)))), (30, .d (.v (.int .i64 v2)))] [(2, 0 ≤ (a0.getD v2.toNat 0) ∧ (a0.getD v2.toNat 0) < (v1.map cB).length), (0, (v1.map cB)[(a0.getD v2.toNat 0).toNat]? = some (cB (v1.getD (a0.getD v2.toNat 0).toNat false)) ∧ (v1.map cB).set (a0.getD v2.toNat 0).toNat (cB true) = ((v1.set (a0.getD v2.toNat 0).toNat true).map cB))] 0 (by kernel_rfl) (⟨own_idx cB hp3, ⟨(idx_ok (d := false) cB hp3).2, set_ok cB rfl⟩⟩) fun a w hm => inBlock_norm (then_norm (((?_ : T Try.prog e 93 _ _ _) a w hm)))
            refine T_region_end [] [1, 2, 4, 6, 28, 29, 30] [] [(1, .d (.v (.int .i64 a1))), (2, .box [.d (.sl 1 (a0.map (cI .i64)))]), (4, .box [.own 1 ([].map (cI .i64)), .own 1 ([].map (cI .i64)), .own 1 ([].map (cI .i64))]), (6, .own 1 ((v1.set (a0.getD v2.toNat 0).toNat true).map cB)), (28, .d (.sl 1 (a0.map (cI .i64)))), (29, .d (.v (.int .i64 (a0.length : Int)))), (30, .d (.v (.int .i64 (IntKind.i64.wrap (v2 + (1 : Int))))))] [] 2 (by kernel_rfl) (trivial) fun a w hm => then_norm (⟨((v1.set (a0.getD v2.toNat 0).toNat true), IntKind.i64.wrap (v2 + (1 : Int))), h, hm.co (cs := [.keep [1, 2, 4, 6, 28, 29, 30]]) (by show _ = _; kernel_rfl)⟩)
        · have h := cond_ff hc h
          obtain hs := Option.some.inj h; subst hs
          refine T_exit fun a w hm => then_exit (then_exit (inBlock_exit (then_norm (⟨_, rfl, hm.co (cs := [.keep [2, 4, 6]]) (by show _ = _; kernel_rfl)⟩))))
      · skip
        refine fun a w hm => then_norm (((?_ : T Try.prog e 93 _ _ _) a w hm))
        obtain ⟨y1, hy1, h⟩ := call_ok h
        refine T_region [(1, { res := .own 1 (y1.map (cI .i64)) })] [2, 4, 6, 9] [] [(2, .box [.d (.sl 1 (a0.map (cI .i64)))]), (4, .box [.own 1 ([].map (cI .i64)), .own 1 ([].map (cI .i64)), .own 1 ([].map (cI .i64))]), (6, .own 1 (v3.map cB)), (9, .own 1 (y1.map (cI .i64)))] [(1, ACall Try.prog 19 [.d (.sl 1 (a0.map (cI .i64)))] [] (.own 1 (y1.map (cI .i64))) [])] 1 (by kernel_rfl) (f19_ok hy1) ?_
        refine T_region [] [2, 4, 6, 9, 10] [] [(2, .box [.d (.sl 1 (a0.map (cI .i64)))]), (4, .box [.own 1 ([].map (cI .i64)), .own 1 ([].map (cI .i64)), .own 1 ([].map (cI .i64))]), (6, .own 1 (v3.map cB)), (9, .own 1 (y1.map (cI .i64))), (10, .box [.own 1 ([].map (cI .i64)), .own 1 ([].map (cI .i64)), .own 1 ([].map (cI .i64))])] [] 1 (by kernel_rfl) (trivial) ?_
        refine T_seqk ?_
        refine T_region [(1, { rw := some (.d (.v (.int .i64 (v3.length : Int)))) })] [2, 4, 6, 9, 10, 48, 49, 50] [] [(2, .box [.d (.sl 1 (a0.map (cI .i64)))]), (4, .box [.own 1 ([].map (cI .i64)), .own 1 ([].map (cI .i64)), .own 1 ([].map (cI .i64))]), (6, .own 1 (v3.map cB)), (9, .own 1 (y1.map (cI .i64))), (10, .box [.own 1 ([].map (cI .i64)), .own 1 ([].map (cI .i64)), .own 1 ([].map (cI .i64))]), (48, .vw (6, 0)), (49, .d (.v (.int .i64 (v3.length : Int)))), (50, .d (.v (.int .i64 (0 : Int))))] [(1, True ∧ AV.d (.v (.int .i64 ((v3.map cB).length : Int))) = .d (.v (.int .i64 (v3.length : Int))))] 1 (by kernel_rfl) (len_ok cB) ?_
        refine T_joinct h (fun (p : (List Int)) => [(2, .box [.d (.sl 1 (a0.map (cI .i64)))]), (4, .box [.own 1 ([].map (cI .i64)), .own 1 ([].map (cI .i64)), .own 1 ([].map (cI .i64))]), (9, .own 1 (y1.map (cI .i64))), (10, .box [.own 1 (p.map (cI .i64)), .own 1 ([].map (cI .i64)), .own 1 ([].map (cI .i64))])]) (fun s h => ?_) (fun v14 h => ?_)
        · refine T_co [.keep [2, 4, 6, 9, 10, 48, 49, 50]] ((fun (p : (List Int) × Int) => [(2, .box [.d (.sl 1 (a0.map (cI .i64)))]), (4, .box [.own 1 ([].map (cI .i64)), .own 1 ([].map (cI .i64)), .own 1 ([].map (cI .i64))]), (6, .own 1 (v3.map cB)), (9, .own 1 (y1.map (cI .i64))), (10, .box [.own 1 (p.1.map (cI .i64)), .own 1 ([].map (cI .i64)), .own 1 ([].map (cI .i64))]), (48, .vw (6, 0)), (49, .d (.v (.int .i64 (v3.length : Int)))), (50, .d (.v (.int .i64 p.2)))]) ([], (0 : Int))) (by show _ = _; kernel_rfl) ?_
          refine T_block ?_
          refine T_loopF (ι := (List Int) × Int) (fun (p : (List Int) × Int) => [(2, .box [.d (.sl 1 (a0.map (cI .i64)))]), (4, .box [.own 1 ([].map (cI .i64)), .own 1 ([].map (cI .i64)), .own 1 ([].map (cI .i64))]), (6, .own 1 (v3.map cB)), (9, .own 1 (y1.map (cI .i64))), (10, .box [.own 1 (p.1.map (cI .i64)), .own 1 ([].map (cI .i64)), .own 1 ([].map (cI .i64))]), (48, .vw (6, 0)), (49, .d (.v (.int .i64 (v3.length : Int)))), (50, .d (.v (.int .i64 p.2)))]) (fun n p => f12_L2 F v3 n p.1 p.2 = some s) (fun i hh => by simp [f12_L2] at hh) (fun n p h => ?_) F ([], (0 : Int)) h
          obtain ⟨v4, v5⟩ := p
          have h : f12_L2 F v3 (n + 1) v4 v5 = some s := h
          rw [f12_L2] at h
          refine T_region [] [2, 4, 6, 9, 10, 48, 49, 50, 51] [] [(2, .box [.d (.sl 1 (a0.map (cI .i64)))]), (4, .box [.own 1 ([].map (cI .i64)), .own 1 ([].map (cI .i64)), .own 1 ([].map (cI .i64))]), (6, .own 1 (v3.map cB)), (9, .own 1 (y1.map (cI .i64))), (10, .box [.own 1 (v4.map (cI .i64)), .own 1 ([].map (cI .i64)), .own 1 ([].map (cI .i64))]), (48, .vw (6, 0)), (49, .d (.v (.int .i64 (v3.length : Int)))), (50, .d (.v (.int .i64 v5))), (51, .d (.v (.bool (decide (v5 < (v3.length : Int))))))] [] 1 (by kernel_rfl) (trivial) ?_
          refine T_seqk ?_
          refine T_cond (decide (v5 < (v3.length : Int))) (by kernel_rfl) (fun hc => ?_) (fun hc => ?_)
          · have h := cond_tt hc h
            refine T_skip fun a w hm => then_norm (((?_ : T Try.prog e 93 _ _ _) a w hm))
            refine T_joinc h (fun (p : (List Int)) => [(2, .box [.d (.sl 1 (a0.map (cI .i64)))]), (4, .box [.own 1 ([].map (cI .i64)), .own 1 ([].map (cI .i64)), .own 1 ([].map (cI .i64))]), (6, .own 1 (v3.map cB)), (9, .own 1 (y1.map (cI .i64))), (10, .box [.own 1 (p.map (cI .i64)), .own 1 ([].map (cI .i64)), .own 1 ([].map (cI .i64))]), (48, .vw (6, 0)), (49, .d (.v (.int .i64 (v3.length : Int)))), (50, .d (.v (.int .i64 v5)))]) (fun s h => ?_) (fun v6 h => ?_)
            · refine T_block ?_
              obtain ⟨hp4, h⟩ := chk_ok h
              refine T_region [(2, { cs := cB (v3.getD v5.toNat false) })] [2, 4, 6, 9, 10, 11, 12, 48, 49, 50] [] [(2, .box [.d (.sl 1 (a0.map (cI .i64)))]), (4, .box [.own 1 ([].map (cI .i64)), .own 1 ([].map (cI .i64)), .own 1 ([].map (cI .i64))]), (6, .own 1 (v3.map cB)), (9, .own 1 (y1.map (cI .i64))), (10, .box [.own 1 (v4.map (cI .i64)), .own 1 ([].map (cI .i64)), .own 1 ([].map (cI .i64))]), (11, .d (.v (.int .i64 v5))), (12, .d (.v (.bool (v3.getD v5.toNat false)))), (48, .vw (6, 0)), (49, .d (.v (.int .i64 (v3.length : Int)))), (50, .d (.v (.int .i64 v5)))] [(1, 0 ≤ v5 ∧ v5 < (v3.map cB).length), (0, (v3.map cB)[v5.toNat]? = some (cB (v3.getD v5.toNat false)))] 2 (by kernel_rfl) (⟨own_idx cB hp4, (idx_ok (d := false) cB hp4).2⟩) ?_
              refine T_region [] [2, 4, 6, 9, 10, 11, 48, 49, 50, 56] [] [(2, .box [.d (.sl 1 (a0.map (cI .i64)))]), (4, .box [.own 1 ([].map (cI .i64)), .own 1 ([].map (cI .i64)), .own 1 ([].map (cI .i64))]), (6, .own 1 (v3.map cB)), (9, .own 1 (y1.map (cI .i64))), (10, .box [.own 1 (v4.map (cI .i64)), .own 1 ([].map (cI .i64)), .own 1 ([].map (cI .i64))]), (11, .d (.v (.int .i64 v5))), (48, .vw (6, 0)), (49, .d (.v (.int .i64 (v3.length : Int)))), (50, .d (.v (.int .i64 v5))), (56, .d (.v (.bool (!(v3.getD v5.toNat false)))))] [] 2 (by kernel_rfl) (trivial) ?_
              refine T_cond (!(v3.getD v5.toNat false)) (by kernel_rfl) (fun hc => ?_) (fun hc => ?_)
              · have h := cond_tt hc h
                obtain ⟨hp5, h⟩ := chk_ok h
                obtain hs := Option.some.inj h; subst hs
                refine T_region_end [(3, { es := some (([v5]).map (cI .i64)) }), (4, { es := some ((v4 ++ ([v5])).map (cI .i64)) })] [2, 4, 6, 9, 10, 48, 49, 50] [] [(2, .box [.d (.sl 1 (a0.map (cI .i64)))]), (4, .box [.own 1 ([].map (cI .i64)), .own 1 ([].map (cI .i64)), .own 1 ([].map (cI .i64))]), (6, .own 1 (v3.map cB)), (9, .own 1 (y1.map (cI .i64))), (10, .box [.own 1 ((v4 ++ ([v5])).map (cI .i64)), .own 1 ([].map (cI .i64)), .own 1 ([].map (cI .i64))]), (48, .vw (6, 0)), (49, .d (.v (.int .i64 (v3.length : Int)))), (50, .d (.v (.int .i64 v5)))] [(3, (([v5]).map (cI .i64)) = (([v5]).map (cI .i64))), (0, (v4.map (cI .i64)).length + (([v5]).map (cI .i64)).length ≤ 4294967296 ∧ (v4.map (cI .i64)) ++ (([v5]).map (cI .i64)) = ((v4 ++ ([v5])).map (cI .i64)))] 2 (by kernel_rfl) (⟨rfl, app_ok (cI .i64) hp5⟩) fun a w hm => inBlock_norm (then_norm (hm.co (cs := [.keep [2, 4, 6, 9, 10, 48, 49, 50]]) (by show _ = _; kernel_rfl)))
              · have h := cond_ff hc h
                obtain hs := Option.some.inj h; subst hs
                refine T_skip fun a w hm => inBlock_norm (then_norm (hm.co (cs := [.keep [2, 4, 6, 9, 10, 48, 49, 50]]) (by show _ = _; kernel_rfl)))
            · skip
              refine T_region_end [] [2, 4, 6, 9, 10, 48, 49, 50] [] [(2, .box [.d (.sl 1 (a0.map (cI .i64)))]), (4, .box [.own 1 ([].map (cI .i64)), .own 1 ([].map (cI .i64)), .own 1 ([].map (cI .i64))]), (6, .own 1 (v3.map cB)), (9, .own 1 (y1.map (cI .i64))), (10, .box [.own 1 (v6.map (cI .i64)), .own 1 ([].map (cI .i64)), .own 1 ([].map (cI .i64))]), (48, .vw (6, 0)), (49, .d (.v (.int .i64 (v3.length : Int)))), (50, .d (.v (.int .i64 (IntKind.i64.wrap (v5 + (1 : Int))))))] [] 2 (by kernel_rfl) (trivial) fun a w hm => then_norm (⟨(v6, IntKind.i64.wrap (v5 + (1 : Int))), h, hm.co (cs := [.keep [2, 4, 6, 9, 10, 48, 49, 50]]) (by show _ = _; kernel_rfl)⟩)
          · have h := cond_ff hc h
            obtain hs := Option.some.inj h; subst hs
            refine T_exit fun a w hm => then_exit (then_exit (inBlock_exit (then_norm (hm.co (cs := [.keep [2, 4, 9, 10]]) (by show _ = _; kernel_rfl)))))
        · skip
          refine fun a w hm => then_norm (((?_ : T Try.prog e 93 _ _ _) a w hm))
          refine T_seqk ?_
          refine T_region [(1, { rw := some (.d (.v (.int .i64 (a0.length : Int)))) })] [2, 4, 9, 10, 64, 65, 66] [] [(2, .box [.d (.sl 1 (a0.map (cI .i64)))]), (4, .box [.own 1 ([].map (cI .i64)), .own 1 ([].map (cI .i64)), .own 1 ([].map (cI .i64))]), (9, .own 1 (y1.map (cI .i64))), (10, .box [.own 1 (v14.map (cI .i64)), .own 1 ([].map (cI .i64)), .own 1 ([].map (cI .i64))]), (64, .d (.sl 1 (a0.map (cI .i64)))), (65, .d (.v (.int .i64 (a0.length : Int)))), (66, .d (.v (.int .i64 (0 : Int))))] [(1, True ∧ AV.d (.v (.int .i64 ((a0.map (cI .i64)).length : Int))) = .d (.v (.int .i64 (a0.length : Int))))] 1 (by kernel_rfl) (len_ok (cI .i64)) ?_
          refine T_joinct h (fun (p : (List Int) × (List Int)) => [(4, .box [.own 1 ([].map (cI .i64)), .own 1 ([].map (cI .i64)), .own 1 ([].map (cI .i64))]), (10, .box [.own 1 (v14.map (cI .i64)), .own 1 (p.1.map (cI .i64)), .own 1 (p.2.map (cI .i64))])]) (fun s h => ?_) (fun s h => ?_)
          · refine T_co [.thaw 9, .keep [2, 4, 9, 10, 64, 65, 66]] ((fun (p : (List Int) × (List Int) × (List Int) × Int) => [(2, .box [.d (.sl 1 (p.1.map (cI .i64)))]), (4, .box [.own 1 ([].map (cI .i64)), .own 1 ([].map (cI .i64)), .own 1 ([].map (cI .i64))]), (9, .d (.sl 1 (y1.map (cI .i64)))), (10, .box [.own 1 (v14.map (cI .i64)), .own 1 (p.2.1.map (cI .i64)), .own 1 (p.2.2.1.map (cI .i64))]), (64, .d (.sl 1 (a0.map (cI .i64)))), (65, .d (.v (.int .i64 (a0.length : Int)))), (66, .d (.v (.int .i64 p.2.2.2)))]) (a0, [], [], (0 : Int))) (by show _ = _; kernel_rfl) ?_
            refine T_block ?_
            refine T_loopF (ι := (List Int) × (List Int) × (List Int) × Int) (fun (p : (List Int) × (List Int) × (List Int) × Int) => [(2, .box [.d (.sl 1 (p.1.map (cI .i64)))]), (4, .box [.own 1 ([].map (cI .i64)), .own 1 ([].map (cI .i64)), .own 1 ([].map (cI .i64))]), (9, .d (.sl 1 (y1.map (cI .i64)))), (10, .box [.own 1 (v14.map (cI .i64)), .own 1 (p.2.1.map (cI .i64)), .own 1 (p.2.2.1.map (cI .i64))]), (64, .d (.sl 1 (a0.map (cI .i64)))), (65, .d (.v (.int .i64 (a0.length : Int)))), (66, .d (.v (.int .i64 p.2.2.2)))]) (fun n p => f12_L4 F a0 y1 n p.1 p.2.1 p.2.2.1 p.2.2.2 = some s) (fun i hh => by simp [f12_L4] at hh) (fun n p h => ?_) F (a0, [], [], (0 : Int)) h
            obtain ⟨v7, v8, v9, v10⟩ := p
            have h : f12_L4 F a0 y1 (n + 1) v7 v8 v9 v10 = some s := h
            rw [f12_L4] at h
            refine T_region [] [2, 4, 9, 10, 64, 65, 66, 67] [] [(2, .box [.d (.sl 1 (v7.map (cI .i64)))]), (4, .box [.own 1 ([].map (cI .i64)), .own 1 ([].map (cI .i64)), .own 1 ([].map (cI .i64))]), (9, .d (.sl 1 (y1.map (cI .i64)))), (10, .box [.own 1 (v14.map (cI .i64)), .own 1 (v8.map (cI .i64)), .own 1 (v9.map (cI .i64))]), (64, .d (.sl 1 (a0.map (cI .i64)))), (65, .d (.v (.int .i64 (a0.length : Int)))), (66, .d (.v (.int .i64 v10))), (67, .d (.v (.bool (decide (v10 < (a0.length : Int))))))] [] 1 (by kernel_rfl) (trivial) ?_
            refine T_seqk ?_
            refine T_cond (decide (v10 < (a0.length : Int))) (by kernel_rfl) (fun hc => ?_) (fun hc => ?_)
            · have h := cond_tt hc h
              refine T_skip fun a w hm => then_norm (((?_ : T Try.prog e 93 _ _ _) a w hm))
              refine T_joinc h (fun (p : (List Int) × (List Int) × (List Int)) => [(2, .box [.d (.sl 1 (p.1.map (cI .i64)))]), (4, .box [.own 1 ([].map (cI .i64)), .own 1 ([].map (cI .i64)), .own 1 ([].map (cI .i64))]), (9, .d (.sl 1 (y1.map (cI .i64)))), (10, .box [.own 1 (v14.map (cI .i64)), .own 1 (p.2.1.map (cI .i64)), .own 1 (p.2.2.map (cI .i64))]), (64, .d (.sl 1 (a0.map (cI .i64)))), (65, .d (.v (.int .i64 (a0.length : Int)))), (66, .d (.v (.int .i64 v10)))]) (fun s h => ?_) (fun s h => ?_)
              · refine T_block ?_
                obtain ⟨hp6, h⟩ := chk_ok h
                refine T_region [(1, { cs := (cI .i64) (a0.getD v10.toNat 0) })] [2, 4, 9, 10, 13, 14, 64, 65, 66] [] [(2, .box [.d (.sl 1 (v7.map (cI .i64)))]), (4, .box [.own 1 ([].map (cI .i64)), .own 1 ([].map (cI .i64)), .own 1 ([].map (cI .i64))]), (9, .d (.sl 1 (y1.map (cI .i64)))), (10, .box [.own 1 (v14.map (cI .i64)), .own 1 (v8.map (cI .i64)), .own 1 (v9.map (cI .i64))]), (13, .d (.v (.int .i64 v10))), (14, .box [.d (.v (.int .i64 (a0.getD v10.toNat 0)))]), (64, .d (.sl 1 (a0.map (cI .i64)))), (65, .d (.v (.int .i64 (a0.length : Int)))), (66, .d (.v (.int .i64 v10)))] [(1, 0 ≤ v10 ∧ (a0.map (cI .i64))[v10.toNat]? = some ((cI .i64) (a0.getD v10.toNat 0)))] 4 (by kernel_rfl) (idx_ok (d := 0) (cI .i64) hp6) ?_
                refine T_block ?_
                obtain ⟨y2, hy2, h⟩ := call_ok h
                refine T_region [(2, { res := .d (.v (.bool y2)) })] [2, 4, 9, 10, 13, 14, 64, 65, 66, 77] [] [(2, .box [.d (.sl 1 (v7.map (cI .i64)))]), (4, .box [.own 1 ([].map (cI .i64)), .own 1 ([].map (cI .i64)), .own 1 ([].map (cI .i64))]), (9, .d (.sl 1 (y1.map (cI .i64)))), (10, .box [.own 1 (v14.map (cI .i64)), .own 1 (v8.map (cI .i64)), .own 1 (v9.map (cI .i64))]), (13, .d (.v (.int .i64 v10))), (14, .box [.d (.v (.int .i64 (a0.getD v10.toNat 0)))]), (64, .d (.sl 1 (a0.map (cI .i64)))), (65, .d (.v (.int .i64 (a0.length : Int)))), (66, .d (.v (.int .i64 v10))), (77, .d (.v (.bool y2)))] [(2, ACall Try.prog 16 [.d (.sl 1 (y1.map (cI .i64))), .d (.v (.int .i64 v10))] [] (.d (.v (.bool y2))) [])] 1 (by kernel_rfl) (f16_ok hy2) ?_
                refine T_cond y2 (by kernel_rfl) (fun hc => ?_) (fun hc => ?_)
                · have h := cond_tt hc h
                  obtain hs := Option.some.inj h; subst hs
                  refine T_skip fun a w hm => inBlock_norm (inBlock_norm (then_norm (hm.co (cs := [.keep [2, 4, 9, 10, 64, 65, 66]]) (by show _ = _; kernel_rfl))))
                · have h := cond_ff hc h
                  obtain ⟨y3, hy3, h⟩ := call_ok h
                  refine T_region [(2, { res := .d (.v (.bool y3.1)), vout := [[.d (.sl 1 (y3.2.1.map (cI .i64)))], [.d (.v (.int .i64 y3.2.2))]], xs := [2, 14] })] [2, 4, 9, 10, 13, 64, 65, 66, 81] [] [(2, .box [.d (.sl 1 (y3.2.1.map (cI .i64)))]), (4, .box [.own 1 ([].map (cI .i64)), .own 1 ([].map (cI .i64)), .own 1 ([].map (cI .i64))]), (9, .d (.sl 1 (y1.map (cI .i64)))), (10, .box [.own 1 (v14.map (cI .i64)), .own 1 (v8.map (cI .i64)), .own 1 (v9.map (cI .i64))]), (13, .d (.v (.int .i64 v10))), (64, .d (.sl 1 (a0.map (cI .i64)))), (65, .d (.v (.int .i64 (a0.length : Int)))), (66, .d (.v (.int .i64 v10))), (81, .d (.v (.bool y3.1)))] [(2, ACall Try.prog 13 [.d (.sl 1 (y1.map (cI .i64))), .clo 20 [.bp 1000000 0, .bp 1000001 0]] [[.d (.sl 1 (v7.map (cI .i64)))], [.d (.v (.int .i64 (a0.getD v10.toNat 0)))]] (.d (.v (.bool y3.1))) [[.d (.sl 1 (y3.2.1.map (cI .i64)))], [.d (.v (.int .i64 y3.2.2))]])] 1 (by kernel_rfl) (f13_ok hy3) ?_
                  refine T_cond y3.1 (by kernel_rfl) (fun hc => ?_) (fun hc => ?_)
                  · have h := cond_tt hc h
                    obtain ⟨hp7, h⟩ := chk_ok h
                    obtain hs := Option.some.inj h; subst hs
                    refine T_region_end [(3, { es := some (([v10]).map (cI .i64)) }), (4, { es := some ((v8 ++ ([v10])).map (cI .i64)) })] [2, 4, 9, 10, 64, 65, 66] [] [(2, .box [.d (.sl 1 (y3.2.1.map (cI .i64)))]), (4, .box [.own 1 ([].map (cI .i64)), .own 1 ([].map (cI .i64)), .own 1 ([].map (cI .i64))]), (9, .d (.sl 1 (y1.map (cI .i64)))), (10, .box [.own 1 (v14.map (cI .i64)), .own 1 ((v8 ++ ([v10])).map (cI .i64)), .own 1 (v9.map (cI .i64))]), (64, .d (.sl 1 (a0.map (cI .i64)))), (65, .d (.v (.int .i64 (a0.length : Int)))), (66, .d (.v (.int .i64 v10)))] [(3, (([v10]).map (cI .i64)) = (([v10]).map (cI .i64))), (0, (v8.map (cI .i64)).length + (([v10]).map (cI .i64)).length ≤ 4294967296 ∧ (v8.map (cI .i64)) ++ (([v10]).map (cI .i64)) = ((v8 ++ ([v10])).map (cI .i64)))] 2 (by kernel_rfl) (⟨rfl, app_ok (cI .i64) hp7⟩) fun a w hm => inBlock_norm (inBlock_norm (then_norm (hm.co (cs := [.keep [2, 4, 9, 10, 64, 65, 66]]) (by show _ = _; kernel_rfl))))
                  · have h := cond_ff hc h
                    obtain ⟨hp8, h⟩ := chk_ok h
                    obtain hs := Option.some.inj h; subst hs
                    refine T_region_end [(3, { es := some (([v10]).map (cI .i64)) }), (4, { es := some ((v9 ++ ([v10])).map (cI .i64)) })] [2, 4, 9, 10, 64, 65, 66] [] [(2, .box [.d (.sl 1 (y3.2.1.map (cI .i64)))]), (4, .box [.own 1 ([].map (cI .i64)), .own 1 ([].map (cI .i64)), .own 1 ([].map (cI .i64))]), (9, .d (.sl 1 (y1.map (cI .i64)))), (10, .box [.own 1 (v14.map (cI .i64)), .own 1 (v8.map (cI .i64)), .own 1 ((v9 ++ ([v10])).map (cI .i64))]), (64, .d (.sl 1 (a0.map (cI .i64)))), (65, .d (.v (.int .i64 (a0.length : Int)))), (66, .d (.v (.int .i64 v10)))] [(3, (([v10]).map (cI .i64)) = (([v10]).map (cI .i64))), (0, (v9.map (cI .i64)).length + (([v10]).map (cI .i64)).length ≤ 4294967296 ∧ (v9.map (cI .i64)) ++ (([v10]).map (cI .i64)) = ((v9 ++ ([v10])).map (cI .i64)))] 2 (by kernel_rfl) (⟨rfl, app_ok (cI .i64) hp8⟩) fun a w hm => inBlock_norm (inBlock_norm (then_norm (hm.co (cs := [.keep [2, 4, 9, 10, 64, 65, 66]]) (by show _ = _; kernel_rfl))))
              · obtain ⟨v11, v12, v13⟩ := s
                try dsimp only at h
                refine T_region_end [] [2, 4, 9, 10, 64, 65, 66] [] [(2, .box [.d (.sl 1 (v11.map (cI .i64)))]), (4, .box [.own 1 ([].map (cI .i64)), .own 1 ([].map (cI .i64)), .own 1 ([].map (cI .i64))]), (9, .d (.sl 1 (y1.map (cI .i64)))), (10, .box [.own 1 (v14.map (cI .i64)), .own 1 (v12.map (cI .i64)), .own 1 (v13.map (cI .i64))]), (64, .d (.sl 1 (a0.map (cI .i64)))), (65, .d (.v (.int .i64 (a0.length : Int)))), (66, .d (.v (.int .i64 (IntKind.i64.wrap (v10 + (1 : Int))))))] [] 2 (by kernel_rfl) (trivial) fun a w hm => then_norm (⟨(v11, v12, v13, IntKind.i64.wrap (v10 + (1 : Int))), h, hm.co (cs := [.keep [2, 4, 9, 10, 64, 65, 66]]) (by show _ = _; kernel_rfl)⟩)
            · have h := cond_ff hc h
              obtain hs := Option.some.inj h; subst hs
              refine T_exit fun a w hm => then_exit (then_exit (inBlock_exit (then_norm (hm.co (cs := [.keep [4, 10]]) (by show _ = _; kernel_rfl)))))
          · obtain ⟨v15, v16⟩ := s
            try dsimp only at h
            refine fun a w hm => then_norm (((?_ : T Try.prog e 93 _ _ _) a w hm))
            refine T_region [(0, { frz := [(10, 1), (10, 2), (10, 3)] })] [4, 5] [] [(4, .box [.d (.sl 1 (((S35.mk v14 v15 v16).f0).map (cI .i64))), .d (.sl 1 (((S35.mk v14 v15 v16).f1).map (cI .i64))), .d (.sl 1 (((S35.mk v14 v15 v16).f2).map (cI .i64)))]), (5, .d (.v (.int .i64 (0 : Int))))] [] 3 (by kernel_rfl) (trivial) ?_
            obtain hs := Option.some.inj h; subst hs
            refine T_ret fun a w hm => T_returnC (fr' := [(4, .box [.d (.sl 1 (((S35.mk v14 v15 v16).f0).map (cI .i64))), .d (.sl 1 (((S35.mk v14 v15 v16).f1).map (cI .i64))), .d (.sl 1 (((S35.mk v14 v15 v16).f2).map (cI .i64)))]), (5, .d (.v (.int .i64 (0 : Int))))]) (ts := [93, 5]) (N' := 94) (fr2 := [(93, .agg (cS35 (S35.mk ((S35.mk v14 v15 v16).f0) ((S35.mk v14 v15 v16).f1) ((S35.mk v14 v15 v16).f2))))] ++ [(4, .box [.d (.sl 1 (((S35.mk v14 v15 v16).f0).map (cI .i64))), .d (.sl 1 (((S35.mk v14 v15 v16).f1).map (cI .i64))), .d (.sl 1 (((S35.mk v14 v15 v16).f2).map (cI .i64)))]), (5, .d (.v (.int .i64 (0 : Int))))]) [.keep [4, 5]] (by kernel_rfl) (by kernel_rfl) (by kernel_rfl) (by kernel_rfl) (by show _ = _; kernel_rfl) (by exact trivial) a w hm

theorem f17_ok {F : Nat} {a0 : List Int} {a1 : Int} {a2 : Int} {c3 : Int} {r : (List Int) × Int} (h : f17 F a0 a1 a2 c3 = some r) : ACall Try.prog 17 [.own 1 (a0.map (cI .i64)), .d (.v (.int .i64 a1)), .d (.v (.int .i64 a2)), .bp 1000000 0] [[.d (.v (.int .i64 c3))]] (.own 1 (r.1.map (cI .i64))) [[.d (.v (.int .i64 r.2))]] := by
  rw [f17] at h
  refine ACall.intro (N := 28) Try.func17 rfl rfl rfl rfl rfl fun e => ?_
  refine T_region [] [0, 1, 2, 3, 1000000] [] [(0, .own 1 (a0.map (cI .i64))), (1, .d (.v (.int .i64 a1))), (2, .d (.v (.int .i64 a2))), (3, .bp 1000000 0), (1000000, .box [.d (.v (.int .i64 c3))])] [] 1 (by kernel_rfl) (trivial) ?_
  refine T_seqk ?_
  refine T_region [] [0, 1, 2, 3, 8, 1000000] [] [(0, .own 1 (a0.map (cI .i64))), (1, .d (.v (.int .i64 a1))), (2, .d (.v (.int .i64 a2))), (3, .bp 1000000 0), (8, .d (.v (.int .i64 a1))), (1000000, .box [.d (.v (.int .i64 c3))])] [] 2 (by kernel_rfl) (trivial) ?_
  refine T_joinct h (fun (p : (List Int)) => [(0, .own 1 (p.map (cI .i64))), (1000000, .box [.d (.v (.int .i64 c3))])]) (fun s h => ?_) (fun v4 h => ?_)
  · refine T_co [.keep [0, 1, 2, 3, 8, 1000000]] ((fun (p : (List Int) × Int) => [(0, .own 1 (p.1.map (cI .i64))), (1, .d (.v (.int .i64 a1))), (2, .d (.v (.int .i64 a2))), (3, .bp 1000000 0), (8, .d (.v (.int .i64 p.2))), (1000000, .box [.d (.v (.int .i64 c3))])]) (a0, a1)) (by show _ = _; kernel_rfl) ?_
    refine T_block ?_
    refine T_loopF (ι := (List Int) × Int) (fun (p : (List Int) × Int) => [(0, .own 1 (p.1.map (cI .i64))), (1, .d (.v (.int .i64 a1))), (2, .d (.v (.int .i64 a2))), (3, .bp 1000000 0), (8, .d (.v (.int .i64 p.2))), (1000000, .box [.d (.v (.int .i64 c3))])]) (fun n p => f17_L0 F a1 a2 c3 n p.1 p.2 = some s) (fun i hh => by simp [f17_L0] at hh) (fun n p h => ?_) F (a0, a1) h
    obtain ⟨v1, v2⟩ := p
    have h : f17_L0 F a1 a2 c3 (n + 1) v1 v2 = some s := h
    rw [f17_L0] at h
    refine T_seqk ?_
    refine T_region [] [0, 1, 2, 3, 8, 14, 1000000] [] [(0, .own 1 (v1.map (cI .i64))), (1, .d (.v (.int .i64 a1))), (2, .d (.v (.int .i64 a2))), (3, .bp 1000000 0), (8, .d (.v (.int .i64 v2))), (14, .d (.v (.bool (decide (v2 < (IntKind.i64.wrap (a1 + a2))))))), (1000000, .box [.d (.v (.int .i64 c3))])] [] 5 (by kernel_rfl) (trivial) ?_
    refine T_cond (decide (v2 < (IntKind.i64.wrap (a1 + a2)))) (by kernel_rfl) (fun hc => ?_) (fun hc => ?_)
    · have h := cond_tt hc h
      refine T_skip fun a w hm => then_norm (((?_ : T Try.prog e 28 _ _ _) a w hm))
      refine T_joinc h (fun (p : (List Int)) => [(0, .own 1 (p.map (cI .i64))), (1, .d (.v (.int .i64 a1))), (2, .d (.v (.int .i64 a2))), (3, .bp 1000000 0), (8, .d (.v (.int .i64 v2))), (1000000, .box [.d (.v (.int .i64 c3))])]) (fun s h => ?_) (fun v3 h => ?_)
      · refine T_block ?_
        refine T_region [] [0, 1, 2, 3, 8, 19, 1000000] [] [(0, .own 1 (v1.map (cI .i64))), (1, .d (.v (.int .i64 a1))), (2, .d (.v (.int .i64 a2))), (3, .bp 1000000 0), (8, .d (.v (.int .i64 v2))), (19, .d (.v (.bool (decide (v2 ≤ c3))))), (1000000, .box [.d (.v (.int .i64 c3))])] [] 3 (by kernel_rfl) (trivial) ?_
        refine T_cond (decide (v2 ≤ c3)) (by kernel_rfl) (fun hc => ?_) (fun hc => ?_)
        · have h := cond_tt hc h
          obtain ⟨hp1, h⟩ := chk_ok h
          obtain hs := Option.some.inj h; subst hs
          refine T_region_end [(2, { es := some (([v2]).map (cI .i64)) }), (3, { es := some ((v1 ++ ([v2])).map (cI .i64)) })] [0, 1, 2, 3, 8, 1000000] [] [(0, .own 1 ((v1 ++ ([v2])).map (cI .i64))), (1, .d (.v (.int .i64 a1))), (2, .d (.v (.int .i64 a2))), (3, .bp 1000000 0), (8, .d (.v (.int .i64 v2))), (1000000, .box [.d (.v (.int .i64 c3))])] [(2, (([v2]).map (cI .i64)) = (([v2]).map (cI .i64))), (0, (v1.map (cI .i64)).length + (([v2]).map (cI .i64)).length ≤ 4294967296 ∧ (v1.map (cI .i64)) ++ (([v2]).map (cI .i64)) = ((v1 ++ ([v2])).map (cI .i64)))] 1 (by kernel_rfl) (⟨rfl, app_ok (cI .i64) hp1⟩) fun a w hm => inBlock_norm (then_norm (hm.co (cs := [.keep [0, 1, 2, 3, 8, 1000000]]) (by show _ = _; kernel_rfl)))
        · have h := cond_ff hc h
          obtain ⟨hp2, h⟩ := chk_ok h
          obtain hs := Option.some.inj h; subst hs
          refine T_region_end [(1, { es := some (([(0 : Int)]).map (cI .i64)) }), (2, { es := some ((v1 ++ ([(0 : Int)])).map (cI .i64)) })] [0, 1, 2, 3, 8, 1000000] [] [(0, .own 1 ((v1 ++ ([(0 : Int)])).map (cI .i64))), (1, .d (.v (.int .i64 a1))), (2, .d (.v (.int .i64 a2))), (3, .bp 1000000 0), (8, .d (.v (.int .i64 v2))), (1000000, .box [.d (.v (.int .i64 c3))])] [(1, (([(0 : Int)]).map (cI .i64)) = (([(0 : Int)]).map (cI .i64))), (0, (v1.map (cI .i64)).length + (([(0 : Int)]).map (cI .i64)).length ≤ 4294967296 ∧ (v1.map (cI .i64)) ++ (([(0 : Int)]).map (cI .i64)) = ((v1 ++ ([(0 : Int)])).map (cI .i64)))] 1 (by kernel_rfl) (⟨rfl, app_ok (cI .i64) hp2⟩) fun a w hm => inBlock_norm (then_norm (hm.co (cs := [.keep [0, 1, 2, 3, 8, 1000000]]) (by show _ = _; kernel_rfl)))
      · skip
        refine T_region_end [] [0, 1, 2, 3, 8, 1000000] [] [(0, .own 1 (v3.map (cI .i64))), (1, .d (.v (.int .i64 a1))), (2, .d (.v (.int .i64 a2))), (3, .bp 1000000 0), (8, .d (.v (.int .i64 (IntKind.i64.wrap (v2 + (1 : Int)))))), (1000000, .box [.d (.v (.int .i64 c3))])] [] 3 (by kernel_rfl) (trivial) fun a w hm => then_norm (⟨(v3, IntKind.i64.wrap (v2 + (1 : Int))), h, hm.co (cs := [.keep [0, 1, 2, 3, 8, 1000000]]) (by show _ = _; kernel_rfl)⟩)
    · have h := cond_ff hc h
      obtain hs := Option.some.inj h; subst hs
      refine T_exit fun a w hm => then_exit (then_exit (inBlock_exit (then_norm (hm.co (cs := [.keep [0, 1000000]]) (by show _ = _; kernel_rfl)))))
  · skip
    refine fun a w hm => then_norm (((?_ : T Try.prog e 28 _ _ _) a w hm))
    refine T_region [] [0, 7, 1000000] [] [(0, .own 1 (v4.map (cI .i64))), (7, .vw (0, 0)), (1000000, .box [.d (.v (.int .i64 c3))])] [] 2 (by kernel_rfl) (trivial) ?_
    obtain hs := Option.some.inj h; subst hs
    refine T_ret fun a w hm => T_return (fr' := [(7, .own 1 (v4.map (cI .i64))), (1000000, .box [.d (.v (.int .i64 c3))])]) [7] (by kernel_rfl) [.claim 7, .keep [7, 1000000]] (by kernel_rfl) (by kernel_rfl) (by kernel_rfl) (by show _ = _; kernel_rfl) (by exact ⟨⟨by kernel_rfl, by kernel_rfl⟩, trivial⟩) a w hm

theorem f7_ok {F : Nat} {a0 : Int} {a1 : Int} {a2 : Int} {r : (List (List Int)) × Int} (h : f7 F a0 a1 a2 = some r) : ACall Try.prog 7 [.d (.v (.int .i64 a0)), .d (.v (.int .i64 a1)), .d (.v (.int .i64 a2))] [] (.tup [.own 1 (r.1.map (cL 1 (cI .i64))), .d (.v (.int .i64 r.2))]) [] := by
  rw [f7] at h
  refine ACall.intro (N := 99) Try.func7 rfl rfl rfl rfl rfl fun e => ?_
  refine T_region [] [1, 2, 3] [] [(1, .d (.v (.int .i64 a1))), (2, .d (.v (.int .i64 a2))), (3, .box [.d (.v (.int .i64 a0))])] [] 3 (by kernel_rfl) (trivial) ?_
  refine T_seqk ?_
  refine T_block ?_
  obtain ⟨z4, hz1, h⟩ := lett_ok h
  refine T_region [(9, { rw := some (.d (.v (.bool z4))) })] [1, 2, 3, 13] [] [(1, .d (.v (.int .i64 a1))), (2, .d (.v (.int .i64 a2))), (3, .box [.d (.v (.int .i64 a0))]), (13, .d (.v (.bool (bif z4 then true else (decide (a1 > (64 : Int)))))))] [(3, ((((decide (a0 < (1 : Int))) == false) && true) = true → True)), (0, ((((decide (a0 < (1 : Int))) == false) && true) = true → True)), (2, ((((bif (decide (a0 < (1 : Int))) then true else (decide (a0 > (512 : Int)))) == false) && true) = true → True)), (0, ((((bif (decide (a0 < (1 : Int))) then true else (decide (a0 > (512 : Int)))) == false) && true) = true → True)), (0, (True) ∧ AV.d (.v (.bool (bif (bif (decide (a0 < (1 : Int))) then true else (decide (a0 > (512 : Int)))) then true else (decide (a1 < (2 : Int)))))) = .d (.v (.bool z4))), (1, (((z4 == false) && true) = true → True)), (0, (((z4 == false) && true) = true → True))] 2 (by kernel_rfl) (⟨(fun hg => trivial), (fun hg => trivial), (fun hg => trivial), (fun hg => trivial), ⟨trivial, (by subst hz1; rfl)⟩, (fun hg => trivial), (fun hg => trivial)⟩) ?_
  refine T_cond (bif z4 then true else (decide (a1 > (64 : Int)))) (by kernel_rfl) (fun hc => ?_) (fun hc => ?_)
  · have h := cond_tt hc h
    refine T_region [] [6, 7] [] [(6, .own 1 ([].map (cL 1 (cI .i64)))), (7, .d (.v (.int .i64 (3 : Int))))] [] 2 (by kernel_rfl) (trivial) ?_
    obtain hs := Option.some.inj h; subst hs
    refine T_ret fun a w hm => inBlock_ret (then_ret (T_return (fr' := [(6, .own 1 ([].map (cL 1 (cI .i64)))), (7, .d (.v (.int .i64 (3 : Int))))]) [6, 7] (by kernel_rfl) [.keep [6, 7]] (by kernel_rfl) (by kernel_rfl) (by kernel_rfl) (by show _ = _; kernel_rfl) (by exact trivial) a w hm))
  · have h := cond_ff hc h
    refine T_region [] [1, 2, 3, 28] [] [(1, .d (.v (.int .i64 a1))), (2, .d (.v (.int .i64 a2))), (3, .box [.d (.v (.int .i64 a0))]), (28, .d (.v (.bool (bif (a2 != (0 : Int)) then (a2 != (1 : Int)) else false))))] [(3, ((((a2 != (0 : Int)) == true) && true) = true → True)), (0, ((((a2 != (0 : Int)) == true) && true) = true → True))] 2 (by kernel_rfl) (⟨(fun hg => trivial), (fun hg => trivial)⟩) ?_
    refine T_cond (bif (a2 != (0 : Int)) then (a2 != (1 : Int)) else false) (by kernel_rfl) (fun hc => ?_) (fun hc => ?_)
    · have h := cond_tt hc h
      refine T_region [] [6, 7] [] [(6, .own 1 ([].map (cL 1 (cI .i64)))), (7, .d (.v (.int .i64 (14 : Int))))] [] 2 (by kernel_rfl) (trivial) ?_
      obtain hs := Option.some.inj h; subst hs
      refine T_ret fun a w hm => inBlock_ret (then_ret (T_return (fr' := [(6, .own 1 ([].map (cL 1 (cI .i64)))), (7, .d (.v (.int .i64 (14 : Int))))]) [6, 7] (by kernel_rfl) [.keep [6, 7]] (by kernel_rfl) (by kernel_rfl) (by kernel_rfl) (by show _ = _; kernel_rfl) (by exact trivial) a w hm))
    · have h := cond_ff hc h
      obtain ⟨z5, hz2, h⟩ := lett_ok h
      refine T_region [(11, { rw := some (.d (.v (.bool z5))) })] [1, 2, 3, 35] [] [(1, .d (.v (.int .i64 a1))), (2, .d (.v (.int .i64 a2))), (3, .box [.d (.v (.int .i64 a0))]), (35, .d (.v (.bool z5)))] [(1, (2 : Int) ≠ 0), (2, (((((a1.tmod (2 : Int)) == (1 : Int)) == false) && true) = true → True)), (0, (((((a1.tmod (2 : Int)) == (1 : Int)) == false) && true) = true → True)), (0, (((((a1.tmod (2 : Int)) == (1 : Int)) == false) && true) = true → True)), (0, ((((a2 == (1 : Int)) == true) && ((((a1.tmod (2 : Int)) == (1 : Int)) == false) && true)) = true → True)), (0, ((((a2 == (1 : Int)) == true) && ((((a1.tmod (2 : Int)) == (1 : Int)) == false) && true)) = true → (4 : Int) ≠ 0)), (0, ((((a2 == (1 : Int)) == true) && ((((a1.tmod (2 : Int)) == (1 : Int)) == false) && true)) = true → True)), (0, (((((a1.tmod (2 : Int)) == (1 : Int)) == false) && true) = true → True)), (0, (True) ∧ AV.d (.v (.bool (bif ((a1.tmod (2 : Int)) == (1 : Int)) then true else (bif (a2 == (1 : Int)) then ((a1.tmod (4 : Int)) != (0 : Int)) else false)))) = .d (.v (.bool z5)))] 1 (by kernel_rfl) (⟨(show (2 : Int) ≠ 0 by decide), (fun hg => trivial), (fun hg => trivial), (fun hg => trivial), (fun hg => trivial), (fun hg => (show (4 : Int) ≠ 0 by decide)), (fun hg => trivial), (fun hg => trivial), ⟨trivial, (by subst hz2; rfl)⟩⟩) ?_
      refine T_cond z5 (by kernel_rfl) (fun hc => ?_) (fun hc => ?_)
      · have h := cond_tt hc h
        refine T_region [] [6, 7] [] [(6, .own 1 ([].map (cL 1 (cI .i64)))), (7, .d (.v (.int .i64 (4 : Int))))] [] 2 (by kernel_rfl) (trivial) ?_
        obtain hs := Option.some.inj h; subst hs
        refine T_ret fun a w hm => inBlock_ret (then_ret (T_return (fr' := [(6, .own 1 ([].map (cL 1 (cI .i64)))), (7, .d (.v (.int .i64 (4 : Int))))]) [6, 7] (by kernel_rfl) [.keep [6, 7]] (by kernel_rfl) (by kernel_rfl) (by kernel_rfl) (by show _ = _; kernel_rfl) (by exact trivial) a w hm))
      · have h := cond_ff hc h
        refine T_skip fun a w hm => inBlock_norm (then_norm (((?_ : T Try.prog e 99 _ _ _) a w hm)))
        obtain ⟨hp1, h⟩ := chk_ok h
        refine T_region [] [1, 2, 3, 8] [] [(1, .d (.v (.int .i64 a1))), (2, .d (.v (.int .i64 a2))), (3, .box [.d (.v (.int .i64 a0))]), (8, .d (.v (.int .i64 (IntKind.i64.wrap ((IntKind.i64.wrap ((IntKind.i64.wrap (a0 + a1)) - (1 : Int))).tdiv a1)))))] [(5, a1 ≠ 0)] 1 (by kernel_rfl) (hp1) ?_
        refine T_seqk ?_
        obtain ⟨z6, hz3, h⟩ := lett_ok h
        refine T_region [(1, { rw := some (.d (.v (.bool z6))) })] [1, 2, 3, 8, 55] [] [(1, .d (.v (.int .i64 a1))), (2, .d (.v (.int .i64 a2))), (3, .box [.d (.v (.int .i64 a0))]), (8, .d (.v (.int .i64 (IntKind.i64.wrap ((IntKind.i64.wrap ((IntKind.i64.wrap (a0 + a1)) - (1 : Int))).tdiv a1))))), (55, .d (.v (.bool z6)))] [(1, (True) ∧ AV.d (.v (.bool (decide ((IntKind.i64.wrap ((IntKind.i64.wrap ((IntKind.i64.wrap (a0 + a1)) - (1 : Int))).tdiv a1)) > (64 : Int))))) = .d (.v (.bool z6)))] 0 (by kernel_rfl) (⟨trivial, (by subst hz3; rfl)⟩) ?_
        refine T_cond z6 (by kernel_rfl) (fun hc => ?_) (fun hc => ?_)
        · have h := cond_tt hc h
          refine T_region [] [6, 7] [] [(6, .own 1 ([].map (cL 1 (cI .i64)))), (7, .d (.v (.int .i64 (2 : Int))))] [] 2 (by kernel_rfl) (trivial) ?_
          obtain hs := Option.some.inj h; subst hs
          refine T_ret fun a w hm => then_ret (T_return (fr' := [(6, .own 1 ([].map (cL 1 (cI .i64)))), (7, .d (.v (.int .i64 (2 : Int))))]) [6, 7] (by kernel_rfl) [.keep [6, 7]] (by kernel_rfl) (by kernel_rfl) (by kernel_rfl) (by show _ = _; kernel_rfl) (by exact trivial) a w hm)
        · have h := cond_ff hc h
          refine T_skip fun a w hm => then_norm (((?_ : T Try.prog e 99 _ _ _) a w hm))
          refine T_region [] [1, 2, 3, 8, 9] [] [(1, .d (.v (.int .i64 a1))), (2, .d (.v (.int .i64 a2))), (3, .box [.d (.v (.int .i64 a0))]), (8, .d (.v (.int .i64 (IntKind.i64.wrap ((IntKind.i64.wrap ((IntKind.i64.wrap (a0 + a1)) - (1 : Int))).tdiv a1))))), (9, .own 1 ([].map (cL 1 (cI .i64))))] [] 1 (by kernel_rfl) (trivial) ?_
          refine T_region [] [1, 2, 3, 8, 9, 10] [] [(1, .d (.v (.int .i64 a1))), (2, .d (.v (.int .i64 a2))), (3, .box [.d (.v (.int .i64 a0))]), (8, .d (.v (.int .i64 (IntKind.i64.wrap ((IntKind.i64.wrap ((IntKind.i64.wrap (a0 + a1)) - (1 : Int))).tdiv a1))))), (9, .own 1 ([].map (cL 1 (cI .i64)))), (10, .clo 17 [.bp 3 0])] [] 2 (by kernel_rfl) (trivial) ?_
          refine T_seqk ?_
          refine T_region [] [1, 2, 3, 8, 9, 10, 57, 58] [] [(1, .d (.v (.int .i64 a1))), (2, .d (.v (.int .i64 a2))), (3, .box [.d (.v (.int .i64 a0))]), (8, .d (.v (.int .i64 (IntKind.i64.wrap ((IntKind.i64.wrap ((IntKind.i64.wrap (a0 + a1)) - (1 : Int))).tdiv a1))))), (9, .own 1 ([].map (cL 1 (cI .i64)))), (10, .clo 17 [.bp 3 0]), (57, .d (.v (.int .i64 (IntKind.i64.wrap ((IntKind.i64.wrap ((IntKind.i64.wrap (a0 + a1)) - (1 : Int))).tdiv a1))))), (58, .d (.v (.int .i64 (0 : Int))))] [] 2 (by kernel_rfl) (trivial) ?_
          refine T_joinct h (fun (p : (List (List Int))) => [(9, .own 1 (p.map (cL 1 (cI .i64))))]) (fun s h => ?_) (fun v6 h => ?_)
          · refine T_co [.keep [1, 2, 3, 8, 9, 10, 57, 58]] ((fun (p : Int × (List (List Int)) × Int) => [(1, .d (.v (.int .i64 a1))), (2, .d (.v (.int .i64 a2))), (3, .box [.d (.v (.int .i64 p.1))]), (8, .d (.v (.int .i64 (IntKind.i64.wrap ((IntKind.i64.wrap ((IntKind.i64.wrap (a0 + a1)) - (1 : Int))).tdiv a1))))), (9, .own 1 (p.2.1.map (cL 1 (cI .i64)))), (10, .clo 17 [.bp 3 0]), (57, .d (.v (.int .i64 (IntKind.i64.wrap ((IntKind.i64.wrap ((IntKind.i64.wrap (a0 + a1)) - (1 : Int))).tdiv a1))))), (58, .d (.v (.int .i64 p.2.2)))]) (a0, [], (0 : Int))) (by show _ = _; kernel_rfl) ?_
            refine T_block ?_
            refine T_loopF (ι := Int × (List (List Int)) × Int) (fun (p : Int × (List (List Int)) × Int) => [(1, .d (.v (.int .i64 a1))), (2, .d (.v (.int .i64 a2))), (3, .box [.d (.v (.int .i64 p.1))]), (8, .d (.v (.int .i64 (IntKind.i64.wrap ((IntKind.i64.wrap ((IntKind.i64.wrap (a0 + a1)) - (1 : Int))).tdiv a1))))), (9, .own 1 (p.2.1.map (cL 1 (cI .i64)))), (10, .clo 17 [.bp 3 0]), (57, .d (.v (.int .i64 (IntKind.i64.wrap ((IntKind.i64.wrap ((IntKind.i64.wrap (a0 + a1)) - (1 : Int))).tdiv a1))))), (58, .d (.v (.int .i64 p.2.2)))]) (fun n p => f7_L1 F a0 a1 a2 n p.1 p.2.1 p.2.2 = some s) (fun i hh => by simp [f7_L1] at hh) (fun n p h => ?_) F (a0, [], (0 : Int)) h
            obtain ⟨v1, v2, v3⟩ := p
            have h : f7_L1 F a0 a1 a2 (n + 1) v1 v2 v3 = some s := h
            rw [f7_L1] at h
            obtain ⟨z1, hz4, h⟩ := lett_ok h
            refine T_region [(0, { rw := some (.d (.v (.bool z1))) })] [1, 2, 3, 8, 9, 10, 57, 58, 59] [] [(1, .d (.v (.int .i64 a1))), (2, .d (.v (.int .i64 a2))), (3, .box [.d (.v (.int .i64 v1))]), (8, .d (.v (.int .i64 (IntKind.i64.wrap ((IntKind.i64.wrap ((IntKind.i64.wrap (a0 + a1)) - (1 : Int))).tdiv a1))))), (9, .own 1 (v2.map (cL 1 (cI .i64)))), (10, .clo 17 [.bp 3 0]), (57, .d (.v (.int .i64 (IntKind.i64.wrap ((IntKind.i64.wrap ((IntKind.i64.wrap (a0 + a1)) - (1 : Int))).tdiv a1))))), (58, .d (.v (.int .i64 v3))), (59, .d (.v (.bool z1)))] [(0, (True) ∧ AV.d (.v (.bool (decide (v3 < (IntKind.i64.wrap ((IntKind.i64.wrap ((IntKind.i64.wrap (a0 + a1)) - (1 : Int))).tdiv a1)))))) = .d (.v (.bool z1)))] 0 (by kernel_rfl) (⟨trivial, (by subst hz4; rfl)⟩) ?_
            refine T_seqk ?_
            refine T_cond z1 (by kernel_rfl) (fun hc => ?_) (fun hc => ?_)
            · have h := cond_tt hc h
              refine T_skip fun a w hm => then_norm (((?_ : T Try.prog e 99 _ _ _) a w hm))
              refine T_joinc h (fun (p : Int × (List (List Int))) => [(1, .d (.v (.int .i64 a1))), (2, .d (.v (.int .i64 a2))), (3, .box [.d (.v (.int .i64 p.1))]), (8, .d (.v (.int .i64 (IntKind.i64.wrap ((IntKind.i64.wrap ((IntKind.i64.wrap (a0 + a1)) - (1 : Int))).tdiv a1))))), (9, .own 1 (p.2.map (cL 1 (cI .i64)))), (10, .clo 17 [.bp 3 0]), (57, .d (.v (.int .i64 (IntKind.i64.wrap ((IntKind.i64.wrap ((IntKind.i64.wrap (a0 + a1)) - (1 : Int))).tdiv a1))))), (58, .d (.v (.int .i64 v3)))]) (fun s h => ?_) (fun s h => ?_)
              · refine T_block ?_
                refine T_region [] [1, 2, 3, 8, 9, 10, 11, 57, 58] [] [(1, .d (.v (.int .i64 a1))), (2, .d (.v (.int .i64 a2))), (3, .box [.d (.v (.int .i64 v1))]), (8, .d (.v (.int .i64 (IntKind.i64.wrap ((IntKind.i64.wrap ((IntKind.i64.wrap (a0 + a1)) - (1 : Int))).tdiv a1))))), (9, .own 1 (v2.map (cL 1 (cI .i64)))), (10, .clo 17 [.bp 3 0]), (11, .d (.v (.int .i64 v3))), (57, .d (.v (.int .i64 (IntKind.i64.wrap ((IntKind.i64.wrap ((IntKind.i64.wrap (a0 + a1)) - (1 : Int))).tdiv a1))))), (58, .d (.v (.int .i64 v3)))] [] 2 (by kernel_rfl) (trivial) ?_
                refine T_seqk ?_
                refine T_region [] [1, 2, 3, 8, 9, 10, 11, 57, 58, 62] [] [(1, .d (.v (.int .i64 a1))), (2, .d (.v (.int .i64 a2))), (3, .box [.d (.v (.int .i64 v1))]), (8, .d (.v (.int .i64 (IntKind.i64.wrap ((IntKind.i64.wrap ((IntKind.i64.wrap (a0 + a1)) - (1 : Int))).tdiv a1))))), (9, .own 1 (v2.map (cL 1 (cI .i64)))), (10, .clo 17 [.bp 3 0]), (11, .d (.v (.int .i64 v3))), (57, .d (.v (.int .i64 (IntKind.i64.wrap ((IntKind.i64.wrap ((IntKind.i64.wrap (a0 + a1)) - (1 : Int))).tdiv a1))))), (58, .d (.v (.int .i64 v3))), (62, .d (.v (.bool (a2 == (0 : Int)))))] [] 2 (by kernel_rfl) (trivial) ?_
                refine T_cond (a2 == (0 : Int)) (by kernel_rfl) (fun hc => ?_) (fun hc => ?_)
                · have h := cond_tt hc h
                  obtain ⟨y1, hy1, h⟩ := call_ok h
                  obtain ⟨hp2, h⟩ := chk_ok h
                  refine T_region [(7, { res := .own 1 (y1.1.map (cI .i64)), vout := [[.d (.v (.int .i64 y1.2))]], xs := [3] }), (8, { frz := [(70, 0)], es := some (([y1.1]).map (cL 1 (cI .i64))) }), (9, { es := some ((v2 ++ ([y1.1])).map (cL 1 (cI .i64))) })] [1, 2, 3, 8, 9, 10, 57, 58] [] [(1, .d (.v (.int .i64 a1))), (2, .d (.v (.int .i64 a2))), (3, .box [.d (.v (.int .i64 y1.2))]), (8, .d (.v (.int .i64 (IntKind.i64.wrap ((IntKind.i64.wrap ((IntKind.i64.wrap (a0 + a1)) - (1 : Int))).tdiv a1))))), (9, .own 1 ((v2 ++ ([y1.1])).map (cL 1 (cI .i64)))), (10, .clo 17 [.bp 3 0]), (57, .d (.v (.int .i64 (IntKind.i64.wrap ((IntKind.i64.wrap ((IntKind.i64.wrap (a0 + a1)) - (1 : Int))).tdiv a1))))), (58, .d (.v (.int .i64 v3)))] [(7, ACall Try.prog 17 [.d (.v (.slice none 0 0)), .d (.v (.int .i64 (IntKind.i64.wrap ((IntKind.i64.wrap (v3 * a1)) + (1 : Int))))), .d (.v (.int .i64 a1)), .bp 1000000 0] [[.d (.v (.int .i64 v1))]] (.own 1 (y1.1.map (cI .i64))) [[.d (.v (.int .i64 y1.2))]]), (0, (([y1.1]).map (cL 1 (cI .i64))) = (([y1.1]).map (cL 1 (cI .i64)))), (0, (v2.map (cL 1 (cI .i64))).length + (([y1.1]).map (cL 1 (cI .i64))).length ≤ 4294967296 ∧ (v2.map (cL 1 (cI .i64))) ++ (([y1.1]).map (cL 1 (cI .i64))) = ((v2 ++ ([y1.1])).map (cL 1 (cI .i64))))] 1 (by kernel_rfl) (⟨(ACall.nilArgOwn 0 (f17_ok hy1) rfl rfl (by decide) rfl), rfl, app_ok (cL 1 (cI .i64)) hp2⟩) ?_
                  obtain hs := Option.some.inj h; subst hs
                  refine T_exit fun a w hm => then_exit (inBlock_exit (then_norm (hm.co (cs := [.keep [1, 2, 3, 8, 9, 10, 57, 58]]) (by show _ = _; kernel_rfl))))
                · have h := cond_ff hc h
                  refine T_skip fun a w hm => then_norm (((?_ : T Try.prog e 99 _ _ _) a w hm))
                  refine T_region [] [1, 2, 3, 8, 9, 10, 11, 12, 57, 58] [] [(1, .d (.v (.int .i64 a1))), (2, .d (.v (.int .i64 a2))), (3, .box [.d (.v (.int .i64 v1))]), (8, .d (.v (.int .i64 (IntKind.i64.wrap ((IntKind.i64.wrap ((IntKind.i64.wrap (a0 + a1)) - (1 : Int))).tdiv a1))))), (9, .own 1 (v2.map (cL 1 (cI .i64)))), (10, .clo 17 [.bp 3 0]), (11, .d (.v (.int .i64 v3))), (12, .d (.v (.int .i64 (IntKind.i64.wrap (a1.tdiv (2 : Int)))))), (57, .d (.v (.int .i64 (IntKind.i64.wrap ((IntKind.i64.wrap ((IntKind.i64.wrap (a0 + a1)) - (1 : Int))).tdiv a1))))), (58, .d (.v (.int .i64 v3)))] [(1, (2 : Int) ≠ 0)] 1 (by kernel_rfl) ((show (2 : Int) ≠ 0 by decide)) ?_
                  obtain ⟨y2, hy2, h⟩ := call_ok h
                  obtain ⟨z2, hz5, h⟩ := lett_ok h
                  obtain ⟨z3, hz6, h⟩ := lett_ok h
                  obtain ⟨y3, hy3, h⟩ := call_ok h
                  obtain ⟨hp3, h⟩ := chk_ok h
                  obtain hs := Option.some.inj h; subst hs
                  refine T_region_end [(8, { res := .own 1 (y2.1.map (cI .i64)), vout := [[.d (.v (.int .i64 y2.2))]], xs := [3] }), (11, { rw := some (.d (.v (.int .i64 z2))) }), (16, { rw := some (.d (.v (.int .i64 z3))) }), (19, { res := .own 1 (y3.1.map (cI .i64)), vout := [[.d (.v (.int .i64 y3.2))]], xs := [3], take := [0] }), (20, { frz := [(94, 0)], es := some (([y3.1]).map (cL 1 (cI .i64))) }), (21, { es := some ((v2 ++ ([y3.1])).map (cL 1 (cI .i64))) })] [1, 2, 3, 8, 9, 10, 57, 58] [] [(1, .d (.v (.int .i64 a1))), (2, .d (.v (.int .i64 a2))), (3, .box [.d (.v (.int .i64 y3.2))]), (8, .d (.v (.int .i64 (IntKind.i64.wrap ((IntKind.i64.wrap ((IntKind.i64.wrap (a0 + a1)) - (1 : Int))).tdiv a1))))), (9, .own 1 ((v2 ++ ([y3.1])).map (cL 1 (cI .i64)))), (10, .clo 17 [.bp 3 0]), (57, .d (.v (.int .i64 (IntKind.i64.wrap ((IntKind.i64.wrap ((IntKind.i64.wrap (a0 + a1)) - (1 : Int))).tdiv a1))))), (58, .d (.v (.int .i64 v3)))] [(8, ACall Try.prog 17 [.d (.v (.slice none 0 0)), .d (.v (.int .i64 (IntKind.i64.wrap ((IntKind.i64.wrap (v3 * (IntKind.i64.wrap (a1.tdiv (2 : Int))))) + (1 : Int))))), .d (.v (.int .i64 (IntKind.i64.wrap (a1.tdiv (2 : Int))))), .bp 1000000 0] [[.d (.v (.int .i64 v1))]] (.own 1 (y2.1.map (cI .i64))) [[.d (.v (.int .i64 y2.2))]]), (2, (True) ∧ AV.d (.v (.int .i64 (IntKind.i64.wrap ((IntKind.i64.wrap ((IntKind.i64.wrap ((IntKind.i64.wrap (a0 + a1)) - (1 : Int))).tdiv a1)) * a1)))) = .d (.v (.int .i64 z2))), (4, (True) ∧ AV.d (.v (.int .i64 (IntKind.i64.wrap (z2 - (IntKind.i64.wrap ((IntKind.i64.wrap (v3 + (1 : Int))) * (IntKind.i64.wrap (a1.tdiv (2 : Int))))))))) = .d (.v (.int .i64 z3))), (2, ACall Try.prog 17 [.own 1 (y2.1.map (cI .i64)), .d (.v (.int .i64 (IntKind.i64.wrap (z3 + (1 : Int))))), .d (.v (.int .i64 (IntKind.i64.wrap (a1.tdiv (2 : Int))))), .bp 1000000 0] [[.d (.v (.int .i64 y2.2))]] (.own 1 (y3.1.map (cI .i64))) [[.d (.v (.int .i64 y3.2))]]), (0, (([y3.1]).map (cL 1 (cI .i64))) = (([y3.1]).map (cL 1 (cI .i64)))), (0, (v2.map (cL 1 (cI .i64))).length + (([y3.1]).map (cL 1 (cI .i64))).length ≤ 4294967296 ∧ (v2.map (cL 1 (cI .i64))) ++ (([y3.1]).map (cL 1 (cI .i64))) = ((v2 ++ ([y3.1])).map (cL 1 (cI .i64))))] 1 (by kernel_rfl) (⟨(ACall.nilArgOwn 0 (f17_ok hy2) rfl rfl (by decide) rfl), ⟨trivial, (by subst hz5; rfl)⟩, ⟨trivial, (by subst hz6; rfl)⟩, f17_ok hy3, rfl, app_ok (cL 1 (cI .i64)) hp3⟩) fun a w hm => inBlock_norm (then_norm (hm.co (cs := [.keep [1, 2, 3, 8, 9, 10, 57, 58]]) (by show _ = _; kernel_rfl)))
              · obtain ⟨v4, v5⟩ := s
                try dsimp only at h
                refine T_region_end [] [1, 2, 3, 8, 9, 10, 57, 58] [] [(1, .d (.v (.int .i64 a1))), (2, .d (.v (.int .i64 a2))), (3, .box [.d (.v (.int .i64 v4))]), (8, .d (.v (.int .i64 (IntKind.i64.wrap ((IntKind.i64.wrap ((IntKind.i64.wrap (a0 + a1)) - (1 : Int))).tdiv a1))))), (9, .own 1 (v5.map (cL 1 (cI .i64)))), (10, .clo 17 [.bp 3 0]), (57, .d (.v (.int .i64 (IntKind.i64.wrap ((IntKind.i64.wrap ((IntKind.i64.wrap (a0 + a1)) - (1 : Int))).tdiv a1))))), (58, .d (.v (.int .i64 (IntKind.i64.wrap (v3 + (1 : Int))))))] [] 2 (by kernel_rfl) (trivial) fun a w hm => then_norm (⟨(v4, v5, IntKind.i64.wrap (v3 + (1 : Int))), h, hm.co (cs := [.keep [1, 2, 3, 8, 9, 10, 57, 58]]) (by show _ = _; kernel_rfl)⟩)
            · have h := cond_ff hc h
              obtain hs := Option.some.inj h; subst hs
              refine T_exit fun a w hm => then_exit (then_exit (inBlock_exit (then_norm (hm.co (cs := [.keep [9]]) (by show _ = _; kernel_rfl)))))
          · skip
            refine fun a w hm => then_norm (((?_ : T Try.prog e 99 _ _ _) a w hm))
            refine T_region [] [6, 7, 9] [] [(6, .vw (9, 0)), (7, .d (.v (.int .i64 (0 : Int)))), (9, .own 1 (v6.map (cL 1 (cI .i64))))] [] 3 (by kernel_rfl) (trivial) ?_
            obtain hs := Option.some.inj h; subst hs
            refine T_ret fun a w hm => T_return (fr' := [(6, .own 1 (v6.map (cL 1 (cI .i64)))), (7, .d (.v (.int .i64 (0 : Int))))]) [6, 7] (by kernel_rfl) [.claim 6, .keep [6, 7]] (by kernel_rfl) (by kernel_rfl) (by kernel_rfl) (by show _ = _; kernel_rfl) (by exact trivial) a w hm

theorem f11_ok {F : Nat} {a0 : List Int} {a1 : List Int} {r : Bool} (h : f11 F a0 a1 = some r) : ACall Try.prog 11 [.d (.sl 1 (a0.map (cI .i64))), .d (.sl 1 (a1.map (cI .i64)))] [] (.d (.v (.bool r))) [] := by
  rw [f11] at h
  refine ACall.intro (N := 26) Try.func11 rfl rfl rfl rfl rfl fun e => ?_
  refine T_region [] [0, 1] [] [(0, .d (.sl 1 (a0.map (cI .i64)))), (1, .d (.sl 1 (a1.map (cI .i64))))] [] 1 (by kernel_rfl) (trivial) ?_
  refine T_seqk ?_
  refine T_region [(1, { rw := some (.d (.v (.int .i64 (a0.length : Int)))) }), (3, { rw := some (.d (.v (.int .i64 (a1.length : Int)))) })] [0, 1, 10] [] [(0, .d (.sl 1 (a0.map (cI .i64)))), (1, .d (.sl 1 (a1.map (cI .i64)))), (10, .d (.v (.bool ((a0.length : Int) != (a1.length : Int)))))] [(1, True ∧ AV.d (.v (.int .i64 ((a0.map (cI .i64)).length : Int))) = .d (.v (.int .i64 (a0.length : Int)))), (1, True ∧ AV.d (.v (.int .i64 ((a1.map (cI .i64)).length : Int))) = .d (.v (.int .i64 (a1.length : Int))))] 1 (by kernel_rfl) (⟨len_ok (cI .i64), len_ok (cI .i64)⟩) ?_
  refine T_cond ((a0.length : Int) != (a1.length : Int)) (by kernel_rfl) (fun hc => ?_) (fun hc => ?_)
  · have h := cond_tt hc h
    refine T_region [] [4] [] [(4, .d (.v (.bool false)))] [] 1 (by kernel_rfl) (trivial) ?_
    obtain hs := Option.some.inj h; subst hs
    refine T_ret fun a w hm => then_ret (T_return (fr' := [(4, .d (.v (.bool false)))]) [4] (by kernel_rfl) [.keep [4]] (by kernel_rfl) (by kernel_rfl) (by kernel_rfl) (by show _ = _; kernel_rfl) (by exact trivial) a w hm)
  · have h := cond_ff hc h
    refine T_skip fun a w hm => then_norm (((?_ : T Try.prog e 26 _ _ _) a w hm))
    refine T_seqk ?_
    refine T_region [(1, { rw := some (.d (.v (.int .i64 (a0.length : Int)))) })] [0, 1, 12, 13] [] [(0, .d (.sl 1 (a0.map (cI .i64)))), (1, .d (.sl 1 (a1.map (cI .i64)))), (12, .d (.v (.int .i64 (a0.length : Int)))), (13, .d (.v (.int .i64 (0 : Int))))] [(1, True ∧ AV.d (.v (.int .i64 ((a0.map (cI .i64)).length : Int))) = .d (.v (.int .i64 (a0.length : Int))))] 1 (by kernel_rfl) (len_ok (cI .i64)) ?_
    refine T_joinEt h (fun (p : Unit) => []) (fun s h hk1 => ?_) (fun s h => ?_)
    · refine T_co [.keep [0, 1, 12, 13]] ((fun (p : Int) => [(0, .d (.sl 1 (a0.map (cI .i64)))), (1, .d (.sl 1 (a1.map (cI .i64)))), (12, .d (.v (.int .i64 (a0.length : Int)))), (13, .d (.v (.int .i64 p)))]) (0 : Int)) (by show _ = _; kernel_rfl) ?_
      refine T_block ?_
      refine T_loopF (ι := Int) (fun (p : Int) => [(0, .d (.sl 1 (a0.map (cI .i64)))), (1, .d (.sl 1 (a1.map (cI .i64)))), (12, .d (.v (.int .i64 (a0.length : Int)))), (13, .d (.v (.int .i64 p)))]) (fun n p => f11_L0 F a0 a1 n p = some s) (fun i hh => by simp [f11_L0] at hh) (fun n v1 h => ?_) F (0 : Int) h
      have h : f11_L0 F a0 a1 (n + 1) v1 = some s := h
      rw [f11_L0] at h
      refine T_region [] [0, 1, 12, 13, 14] [] [(0, .d (.sl 1 (a0.map (cI .i64)))), (1, .d (.sl 1 (a1.map (cI .i64)))), (12, .d (.v (.int .i64 (a0.length : Int)))), (13, .d (.v (.int .i64 v1))), (14, .d (.v (.bool (decide (v1 < (a0.length : Int))))))] [] 1 (by kernel_rfl) (trivial) ?_
      refine T_seqk ?_
      refine T_cond (decide (v1 < (a0.length : Int))) (by kernel_rfl) (fun hc => ?_) (fun hc => ?_)
      · have h := cond_tt hc h
        refine T_skip fun a w hm => then_norm (((?_ : T Try.prog e 26 _ _ _) a w hm))
        refine T_seqk ?_
        refine T_block ?_
        refine T_region [] [0, 1, 5, 12, 13] [] [(0, .d (.sl 1 (a0.map (cI .i64)))), (1, .d (.sl 1 (a1.map (cI .i64)))), (5, .d (.v (.int .i64 v1))), (12, .d (.v (.int .i64 (a0.length : Int)))), (13, .d (.v (.int .i64 v1)))] [] 2 (by kernel_rfl) (trivial) ?_
        obtain ⟨hp1, h⟩ := chk_ok h
        obtain ⟨hp2, h⟩ := chk_ok h
        refine T_draw mixed [(2, { cs := (cI .i64) (a0.getD v1.toNat 0) }), (6, { cs := (cI .i64) (a1.getD v1.toNat 0) })] [0, 1, 12, 13, 24] [] [(0, .d (.sl 1 (a0.map (cI .i64)))), (1, .d (.sl 1 (a1.map (cI .i64)))), (12, .d (.v (.int .i64 (a0.length : Int)))), (13, .d (.v (.int .i64 v1))), (24, .d (.v (.bool ((a0.getD v1.toNat 0) != (a1.getD v1.toNat 0)))))] [(2, 0 ≤ v1 ∧ (a0.map (cI .i64))[v1.toNat]? = some ((cI .i64) (a0.getD v1.toNat 0))), (3, 0 ≤ v1 ∧ (a1.map (cI .i64))[v1.toNat]? = some ((cI .i64) (a1.getD v1.toNat 0)))] 2 (by kernel_rfl) (⟨idx_ok (d := 0) (cI .i64) hp1, idx_ok (d := 0) (cI .i64) hp2⟩) ?_
        refine T_cond ((a0.getD v1.toNat 0) != (a1.getD v1.toNat 0)) (by kernel_rfl) (fun hc => ?_) (fun hc => ?_)
        · have h := cond_tt hc h
          refine T_region [] [4] [] [(4, .d (.v (.bool false)))] [] 1 (by kernel_rfl) (trivial) ?_
          obtain hs := Option.some.inj h; subst hs
          have h := callE_esc hk1
          obtain hs := Option.some.inj h; subst hs
          refine T_ret fun a w hm => inBlock_ret (then_ret (then_ret (inBlock_ret (then_ret (then_ret (T_return (fr' := [(4, .d (.v (.bool false)))]) [4] (by kernel_rfl) [.keep [4]] (by kernel_rfl) (by kernel_rfl) (by kernel_rfl) (by show _ = _; kernel_rfl) (by exact trivial) a w hm))))))
        · have h := cond_ff hc h
          refine T_skip fun a w hm => inBlock_norm (then_norm (((?_ : T Try.prog e 26 _ _ _) a w hm)))
          refine T_region_end [] [0, 1, 12, 13] [] [(0, .d (.sl 1 (a0.map (cI .i64)))), (1, .d (.sl 1 (a1.map (cI .i64)))), (12, .d (.v (.int .i64 (a0.length : Int)))), (13, .d (.v (.int .i64 (IntKind.i64.wrap (v1 + (1 : Int))))))] [] 2 (by kernel_rfl) (trivial) fun a w hm => then_norm (⟨IntKind.i64.wrap (v1 + (1 : Int)), h, hm.co (cs := [.keep [0, 1, 12, 13]]) (by show _ = _; kernel_rfl)⟩)
      · have h := cond_ff hc h
        obtain hs := Option.some.inj h; subst hs
        refine T_exit fun a w hm => then_exit (then_exit (inBlock_exit (then_norm (⟨_, rfl, hm.co (cs := [.keep []]) (by show _ = _; kernel_rfl)⟩))))
    · skip
      refine fun a w hm => then_norm (((?_ : T Try.prog e 26 _ _ _) a w hm))
      refine T_region [] [4] [] [(4, .d (.v (.bool true)))] [] 1 (by kernel_rfl) (trivial) ?_
      obtain hs := Option.some.inj h; subst hs
      refine T_ret fun a w hm => T_return (fr' := [(4, .d (.v (.bool true)))]) [4] (by kernel_rfl) [.keep [4]] (by kernel_rfl) (by kernel_rfl) (by kernel_rfl) (by show _ = _; kernel_rfl) (by exact trivial) a w hm

theorem f6_ok {F : Nat}  {r : Bool} (h : f6 F  = some r) : ACall Try.prog 6 [] [] (.d (.v (.bool r))) [] := by
  rw [f6] at h
  refine ACall.intro (N := 28) Try.func6 rfl rfl rfl rfl rfl fun e => ?_
  refine T_region [] [] [] [] [] 1 (by kernel_rfl) (trivial) ?_
  obtain ⟨y1, hy1, h⟩ := call_ok h
  refine T_region [(0, { res := .tup [.own 1 (y1.1.map (cL 1 (cI .i64))), .d (.v (.int .i64 y1.2))] })] [1, 2] [] [(1, .own 1 (y1.1.map (cL 1 (cI .i64)))), (2, .d (.v (.int .i64 y1.2)))] [(0, ACall Try.prog 7 [.d (.v (.int .i64 (6 : Int))), .d (.v (.int .i64 (4 : Int))), .d (.v (.int .i64 (1 : Int)))] [] (.tup [.own 1 (y1.1.map (cL 1 (cI .i64))), .d (.v (.int .i64 y1.2))]) [])] 5 (by kernel_rfl) (f7_ok hy1) ?_
  obtain ⟨hp1, h⟩ := chk_ok h
  obtain ⟨y2, hy2, h⟩ := call_ok h
  obtain ⟨z1, hz1, h⟩ := lett_ok h
  obtain ⟨hp2, h⟩ := chk_ok h
  obtain ⟨y3, hy3, h⟩ := call_ok h
  refine T_region [(4, { rw := some (.d (.v (.int .i64 (y1.1.length : Int)))) }), (10, { cs := (cL 1 (cI .i64)) (y1.1.getD (0 : Int).toNat []) }), (11, { es := some (([(1 : Int), (2 : Int), (0 : Int), (0 : Int)]).map (cI .i64)) }), (12, { res := .d (.v (.bool y2)) }), (13, { rw := some (.d (.v (.bool z1))) }), (17, { cs := (cL 1 (cI .i64)) (y1.1.getD (1 : Int).toNat []) }), (18, { es := some (([(3 : Int), (4 : Int), (5 : Int), (6 : Int)]).map (cI .i64)) }), (19, { res := .d (.v (.bool y3)) })] [0] [] [(0, .d (.v (.bool (bif z1 then y3 else false))))] [(3, ((((y1.2 == (0 : Int)) == true) && true) = true → True)), (0, ((((y1.2 == (0 : Int)) == true) && true) = true → True ∧ AV.d (.v (.int .i64 ((y1.1.map (cL 1 (cI .i64))).length : Int))) = .d (.v (.int .i64 (y1.1.length : Int))))), (0, ((((y1.2 == (0 : Int)) == true) && true) = true → True)), (2, ((((bif (y1.2 == (0 : Int)) then ((y1.1.length : Int) == (2 : Int)) else false) == true) && true) = true → True)), (0, ((((bif (y1.2 == (0 : Int)) then ((y1.1.length : Int) == (2 : Int)) else false) == true) && true) = true → 0 ≤ (0 : Int) ∧ (0 : Int) < (y1.1.map (cL 1 (cI .i64))).length)), (0, ((((bif (y1.2 == (0 : Int)) then ((y1.1.length : Int) == (2 : Int)) else false) == true) && true) = true → (y1.1.map (cL 1 (cI .i64)))[(0 : Int).toNat]? = some ((cL 1 (cI .i64)) (y1.1.getD (0 : Int).toNat [])))), (0, ((((bif (y1.2 == (0 : Int)) then ((y1.1.length : Int) == (2 : Int)) else false) == true) && true) = true → (([(1 : Int), (2 : Int), (0 : Int), (0 : Int)]).map (cI .i64)) = (([(1 : Int), (2 : Int), (0 : Int), (0 : Int)]).map (cI .i64)))), (0, ((((bif (y1.2 == (0 : Int)) then ((y1.1.length : Int) == (2 : Int)) else false) == true) && true) = true → ACall Try.prog 11 [.d (.sl 1 ((y1.1.getD (0 : Int).toNat []).map (cI .i64))), .d (.sl 1 (([(1 : Int), (2 : Int), (0 : Int), (0 : Int)]).map (cI .i64)))] [] (.d (.v (.bool y2))) [])), (0, (True) ∧ AV.d (.v (.bool (bif (bif (y1.2 == (0 : Int)) then ((y1.1.length : Int) == (2 : Int)) else false) then y2 else false))) = .d (.v (.bool z1))), (1, (((z1 == true) && true) = true → True)), (0, (((z1 == true) && true) = true → 0 ≤ (1 : Int) ∧ (1 : Int) < (y1.1.map (cL 1 (cI .i64))).length)), (0, (((z1 == true) && true) = true → (y1.1.map (cL 1 (cI .i64)))[(1 : Int).toNat]? = some ((cL 1 (cI .i64)) (y1.1.getD (1 : Int).toNat [])))), (0, (((z1 == true) && true) = true → (([(3 : Int), (4 : Int), (5 : Int), (6 : Int)]).map (cI .i64)) = (([(3 : Int), (4 : Int), (5 : Int), (6 : Int)]).map (cI .i64)))), (0, (((z1 == true) && true) = true → ACall Try.prog 11 [.d (.sl 1 ((y1.1.getD (1 : Int).toNat []).map (cI .i64))), .d (.sl 1 (([(3 : Int), (4 : Int), (5 : Int), (6 : Int)]).map (cI .i64)))] [] (.d (.v (.bool y3))) []))] 2 (by kernel_rfl) (⟨(fun hg => trivial), (fun hg => len_ok (cL 1 (cI .i64))), (fun hg => trivial), (fun hg => trivial), (fun hg => own_idx (cL 1 (cI .i64)) (hp1 hg)), (fun hg => (idx_ok (d := []) (cL 1 (cI .i64)) (hp1 hg)).2), (fun hg => rfl), (fun hg => f11_ok (gcall_ok hg hy2)), ⟨trivial, (by subst hz1; rfl)⟩, (fun hg => trivial), (fun hg => own_idx (cL 1 (cI .i64)) (hp2 hg)), (fun hg => (idx_ok (d := []) (cL 1 (cI .i64)) (hp2 hg)).2), (fun hg => rfl), (fun hg => f11_ok (gcall_ok hg hy3))⟩) ?_
  obtain hs := Option.some.inj h; subst hs
  refine T_ret fun a w hm => T_return (fr' := [(0, .d (.v (.bool (bif z1 then y3 else false))))]) [0] (by kernel_rfl) [.keep [0]] (by kernel_rfl) (by kernel_rfl) (by kernel_rfl) (by show _ = _; kernel_rfl) (by exact trivial) a w hm

theorem f14_ok {F : Nat} {a0 : Int} {c1 : Int} {r : Bool × Int} (h : f14 F a0 c1 = some r) : ACall Try.prog 14 [.d (.v (.int .i64 a0)), .bp 1000000 0] [[.d (.v (.int .i64 c1))]] (.d (.v (.bool r.1))) [[.d (.v (.int .i64 r.2))]] := by
  rw [f14] at h
  refine ACall.intro (N := 11) Try.func14 rfl rfl rfl rfl rfl fun e => ?_
  refine T_region [] [0, 1, 1000000] [] [(0, .d (.v (.int .i64 a0))), (1, .bp 1000000 0), (1000000, .box [.d (.v (.int .i64 c1))])] [] 1 (by kernel_rfl) (trivial) ?_
  refine T_region [] [3, 1000000] [] [(3, .d (.v (.bool (bif (decide (a0 < (0 : Int))) then true else (decide (a0 ≥ c1)))))), (1000000, .box [.d (.v (.int .i64 c1))])] [(3, ((((decide (a0 < (0 : Int))) == false) && true) = true → True)), (0, ((((decide (a0 < (0 : Int))) == false) && true) = true → True)), (0, ((((decide (a0 < (0 : Int))) == false) && true) = true → True))] 2 (by kernel_rfl) (⟨(fun hg => trivial), (fun hg => trivial), (fun hg => trivial)⟩) ?_
  obtain hs := Option.some.inj h; subst hs
  refine T_ret fun a w hm => T_return (fr' := [(3, .d (.v (.bool (bif (decide (a0 < (0 : Int))) then true else (decide (a0 ≥ c1)))))), (1000000, .box [.d (.v (.int .i64 c1))])]) [3] (by kernel_rfl) [.keep [3, 1000000]] (by kernel_rfl) (by kernel_rfl) (by kernel_rfl) (by show _ = _; kernel_rfl) (by exact ⟨⟨by kernel_rfl, by kernel_rfl⟩, trivial⟩) a w hm

theorem f21_1_ok {F : Nat} {a0 : List Int} {c1 : Int} {r : Int × Int} (h : f21_1 F a0 c1 = some r) : ACall Try.prog 21 [.d (.sl 1 (a0.map (cI .i64))), .clo 14 [.bp 1000000 0]] [[.d (.v (.int .i64 c1))]] (.d (.v (.int .i64 r.1))) [[.d (.v (.int .i64 r.2))]] := by
  rw [f21_1] at h
  refine ACall.intro (N := 19) Try.func21 rfl rfl rfl rfl rfl fun e => ?_
  refine T_region [] [0, 1, 1000000] [] [(0, .d (.sl 1 (a0.map (cI .i64)))), (1, .clo 14 [.bp 1000000 0]), (1000000, .box [.d (.v (.int .i64 c1))])] [] 1 (by kernel_rfl) (trivial) ?_
  refine T_seqk ?_
  refine T_region [(1, { rw := some (.d (.v (.int .i64 (a0.length : Int)))) })] [0, 1, 7, 8, 1000000] [] [(0, .d (.sl 1 (a0.map (cI .i64)))), (1, .clo 14 [.bp 1000000 0]), (7, .d (.v (.int .i64 (a0.length : Int)))), (8, .d (.v (.int .i64 (0 : Int)))), (1000000, .box [.d (.v (.int .i64 c1))])] [(1, True ∧ AV.d (.v (.int .i64 ((a0.map (cI .i64)).length : Int))) = .d (.v (.int .i64 (a0.length : Int))))] 1 (by kernel_rfl) (len_ok (cI .i64)) ?_
  refine T_joinEt h (fun (p : Int) => [(1000000, .box [.d (.v (.int .i64 p))])]) (fun s h hk1 => ?_) (fun v3 h => ?_)
  · refine T_co [.keep [0, 1, 7, 8, 1000000]] ((fun (p : Int × Int) => [(0, .d (.sl 1 (a0.map (cI .i64)))), (1, .clo 14 [.bp 1000000 0]), (7, .d (.v (.int .i64 (a0.length : Int)))), (8, .d (.v (.int .i64 p.1))), (1000000, .box [.d (.v (.int .i64 p.2))])]) ((0 : Int), c1)) (by show _ = _; kernel_rfl) ?_
    refine T_block ?_
    refine T_loopF (ι := Int × Int) (fun (p : Int × Int) => [(0, .d (.sl 1 (a0.map (cI .i64)))), (1, .clo 14 [.bp 1000000 0]), (7, .d (.v (.int .i64 (a0.length : Int)))), (8, .d (.v (.int .i64 p.1))), (1000000, .box [.d (.v (.int .i64 p.2))])]) (fun n p => f21_1_L0 F a0 n p.1 p.2 = some s) (fun i hh => by simp [f21_1_L0] at hh) (fun n p h => ?_) F ((0 : Int), c1) h
    obtain ⟨v1, v2⟩ := p
    have h : f21_1_L0 F a0 (n + 1) v1 v2 = some s := h
    rw [f21_1_L0] at h
    refine T_region [] [0, 1, 7, 8, 9, 1000000] [] [(0, .d (.sl 1 (a0.map (cI .i64)))), (1, .clo 14 [.bp 1000000 0]), (7, .d (.v (.int .i64 (a0.length : Int)))), (8, .d (.v (.int .i64 v1))), (9, .d (.v (.bool (decide (v1 < (a0.length : Int)))))), (1000000, .box [.d (.v (.int .i64 v2))])] [] 1 (by kernel_rfl) (trivial) ?_
    refine T_seqk ?_
    refine T_cond (decide (v1 < (a0.length : Int))) (by kernel_rfl) (fun hc => ?_) (fun hc => ?_)
    · have h := cond_tt hc h
      refine T_skip fun a w hm => then_norm (((?_ : T Try.prog e 19 _ _ _) a w hm))
      refine T_seqk ?_
      refine T_block ?_
      refine T_region [] [0, 1, 5, 7, 8, 1000000] [] [(0, .d (.sl 1 (a0.map (cI .i64)))), (1, .clo 14 [.bp 1000000 0]), (5, .d (.v (.int .i64 v1))), (7, .d (.v (.int .i64 (a0.length : Int)))), (8, .d (.v (.int .i64 v1))), (1000000, .box [.d (.v (.int .i64 v2))])] [] 2 (by kernel_rfl) (trivial) ?_
      obtain ⟨hp1, h⟩ := chk_ok h
      obtain ⟨y1, hy1, h⟩ := call_ok h
      refine T_region [(3, { cs := (cI .i64) (a0.getD v1.toNat 0) }), (5, { res := .d (.v (.bool y1.1)), vout := [[.d (.v (.int .i64 y1.2))]], xs := [1000000] })] [0, 1, 5, 7, 8, 16, 1000000] [] [(0, .d (.sl 1 (a0.map (cI .i64)))), (1, .clo 14 [.bp 1000000 0]), (5, .d (.v (.int .i64 v1))), (7, .d (.v (.int .i64 (a0.length : Int)))), (8, .d (.v (.int .i64 v1))), (16, .d (.v (.bool y1.1))), (1000000, .box [.d (.v (.int .i64 y1.2))])] [(3, 0 ≤ v1 ∧ (a0.map (cI .i64))[v1.toNat]? = some ((cI .i64) (a0.getD v1.toNat 0))), (1, ACall Try.prog 14 [.d (.v (.int .i64 (a0.getD v1.toNat 0))), .bp 1000000 0] [[.d (.v (.int .i64 v2))]] (.d (.v (.bool y1.1))) [[.d (.v (.int .i64 y1.2))]])] 0 (by kernel_rfl) (⟨idx_ok (d := 0) (cI .i64) hp1, f14_ok hy1⟩) ?_
      refine T_cond y1.1 (by kernel_rfl) (fun hc => ?_) (fun hc => ?_)
      · have h := cond_tt hc h
        refine T_region [] [4, 1000000] [] [(4, .d (.v (.int .i64 v1))), (1000000, .box [.d (.v (.int .i64 y1.2))])] [] 2 (by kernel_rfl) (trivial) ?_
        obtain hs := Option.some.inj h; subst hs
        have h := callE_esc hk1
        obtain hs := Option.some.inj h; subst hs
        refine T_ret fun a w hm => inBlock_ret (then_ret (then_ret (inBlock_ret (then_ret (then_ret (T_return (fr' := [(4, .d (.v (.int .i64 v1))), (1000000, .box [.d (.v (.int .i64 y1.2))])]) [4] (by kernel_rfl) [.keep [4, 1000000]] (by kernel_rfl) (by kernel_rfl) (by kernel_rfl) (by show _ = _; kernel_rfl) (by exact ⟨⟨by kernel_rfl, by kernel_rfl⟩, trivial⟩) a w hm))))))
      · have h := cond_ff hc h
        refine T_skip fun a w hm => inBlock_norm (then_norm (((?_ : T Try.prog e 19 _ _ _) a w hm)))
        refine T_region_end [] [0, 1, 7, 8, 1000000] [] [(0, .d (.sl 1 (a0.map (cI .i64)))), (1, .clo 14 [.bp 1000000 0]), (7, .d (.v (.int .i64 (a0.length : Int)))), (8, .d (.v (.int .i64 (IntKind.i64.wrap (v1 + (1 : Int)))))), (1000000, .box [.d (.v (.int .i64 y1.2))])] [] 2 (by kernel_rfl) (trivial) fun a w hm => then_norm (⟨(IntKind.i64.wrap (v1 + (1 : Int)), y1.2), h, hm.co (cs := [.keep [0, 1, 7, 8, 1000000]]) (by show _ = _; kernel_rfl)⟩)
    · have h := cond_ff hc h
      obtain hs := Option.some.inj h; subst hs
      refine T_exit fun a w hm => then_exit (then_exit (inBlock_exit (then_norm (⟨_, rfl, hm.co (cs := [.keep [1000000]]) (by show _ = _; kernel_rfl)⟩))))
  · skip
    refine fun a w hm => then_norm (((?_ : T Try.prog e 19 _ _ _) a w hm))
    refine T_region [] [4, 1000000] [] [(4, .d (.v (.int .i64 (-1 : Int)))), (1000000, .box [.d (.v (.int .i64 v3))])] [] 1 (by kernel_rfl) (trivial) ?_
    obtain hs := Option.some.inj h; subst hs
    refine T_ret fun a w hm => T_return (fr' := [(4, .d (.v (.int .i64 (-1 : Int)))), (1000000, .box [.d (.v (.int .i64 v3))])]) [4] (by kernel_rfl) [.keep [4, 1000000]] (by kernel_rfl) (by kernel_rfl) (by kernel_rfl) (by show _ = _; kernel_rfl) (by exact ⟨⟨by kernel_rfl, by kernel_rfl⟩, trivial⟩) a w hm

theorem f13_1_ok {F : Nat} {a0 : List Int} {c1 : Int} {r : Bool × Int} (h : f13_1 F a0 c1 = some r) : ACall Try.prog 13 [.d (.sl 1 (a0.map (cI .i64))), .clo 14 [.bp 1000000 0]] [[.d (.v (.int .i64 c1))]] (.d (.v (.bool r.1))) [[.d (.v (.int .i64 r.2))]] := by
  rw [f13_1] at h
  refine ACall.intro (N := 9) Try.func13 rfl rfl rfl rfl rfl fun e => ?_
  refine T_region [] [0, 1, 1000000] [] [(0, .d (.sl 1 (a0.map (cI .i64)))), (1, .clo 14 [.bp 1000000 0]), (1000000, .box [.d (.v (.int .i64 c1))])] [] 1 (by kernel_rfl) (trivial) ?_
  obtain ⟨y1, hy1, h⟩ := call_ok h
  refine T_region [(2, { res := .d (.v (.int .i64 y1.1)), vout := [[.d (.v (.int .i64 y1.2))]], xs := [1000000] })] [4, 1000000] [] [(4, .d (.v (.bool (decide (y1.1 ≥ (0 : Int)))))), (1000000, .box [.d (.v (.int .i64 y1.2))])] [(2, ACall Try.prog 21 [.d (.sl 1 (a0.map (cI .i64))), .clo 14 [.bp 1000000 0]] [[.d (.v (.int .i64 c1))]] (.d (.v (.int .i64 y1.1))) [[.d (.v (.int .i64 y1.2))]])] 2 (by kernel_rfl) (f21_1_ok hy1) ?_
  obtain hs := Option.some.inj h; subst hs
  refine T_ret fun a w hm => T_return (fr' := [(4, .d (.v (.bool (decide (y1.1 ≥ (0 : Int)))))), (1000000, .box [.d (.v (.int .i64 y1.2))])]) [4] (by kernel_rfl) [.keep [4, 1000000]] (by kernel_rfl) (by kernel_rfl) (by kernel_rfl) (by show _ = _; kernel_rfl) (by exact ⟨⟨by kernel_rfl, by kernel_rfl⟩, trivial⟩) a w hm

theorem f22_ok {F : Nat} {a0 : List Int} {r : Int} (h : f22 F a0 = some r) : ACall Try.prog 22 [.d (.sl 1 (a0.map (cI .i64)))] [] (.d (.v (.int .i64 r))) [] := by
  rw [f22] at h
  refine ACall.intro (N := 53) Try.func22 rfl rfl rfl rfl rfl fun e => ?_
  refine T_region [] [0] [] [(0, .d (.sl 1 (a0.map (cI .i64))))] [] 1 (by kernel_rfl) (trivial) ?_
  obtain ⟨hp1, h⟩ := chk_ok h
  refine T_region [(1, { rw := some (.d (.v (.int .i64 (a0.length : Int)))) }), (2, { es := some ((List.replicate (a0.length : Int).toNat 0).map (cI .i64)) })] [0, 3] [] [(0, .d (.sl 1 (a0.map (cI .i64)))), (3, .own 1 ((List.replicate (a0.length : Int).toNat 0).map (cI .i64)))] [(1, True ∧ AV.d (.v (.int .i64 ((a0.map (cI .i64)).length : Int))) = .d (.v (.int .i64 (a0.length : Int)))), (0, (0 ≤ (a0.length : Int) ∧ (a0.length : Int) ≤ (a0.length : Int) ∧ (a0.length : Int) ≤ 9223372036854775807 ∧ ((8 : Nat) : Int) * (a0.length : Int) ≤ 281474976710656) ∧ List.replicate (a0.length : Int).toNat ((cI .i64) 0) = ((List.replicate (a0.length : Int).toNat 0).map (cI .i64)))] 1 (by kernel_rfl) (⟨len_ok (cI .i64), ⟨hp1, repl_ok (cI .i64) rfl⟩⟩) ?_
  refine T_region [] [0, 3, 4] [] [(0, .d (.sl 1 (a0.map (cI .i64)))), (3, .own 1 ((List.replicate (a0.length : Int).toNat 0).map (cI .i64))), (4, .d (.v (.int .i64 (0 : Int))))] [] 1 (by kernel_rfl) (trivial) ?_
  refine T_seqk ?_
  refine T_region [(1, { rw := some (.d (.v (.int .i64 (a0.length : Int)))) })] [0, 3, 4, 11, 12] [] [(0, .d (.sl 1 (a0.map (cI .i64)))), (3, .own 1 ((List.replicate (a0.length : Int).toNat 0).map (cI .i64))), (4, .d (.v (.int .i64 (0 : Int)))), (11, .d (.v (.int .i64 (a0.length : Int)))), (12, .d (.v (.int .i64 (0 : Int))))] [(1, True ∧ AV.d (.v (.int .i64 ((a0.map (cI .i64)).length : Int))) = .d (.v (.int .i64 (a0.length : Int))))] 1 (by kernel_rfl) (len_ok (cI .i64)) ?_
  refine T_joinct h (fun (p : Int) => [(4, .d (.v (.int .i64 p)))]) (fun s h => ?_) (fun v8 h => ?_)
  · refine T_co [.keep [0, 3, 4, 11, 12]] ((fun (p : (List Int) × Int × Int) => [(0, .d (.sl 1 (a0.map (cI .i64)))), (3, .own 1 (p.1.map (cI .i64))), (4, .d (.v (.int .i64 p.2.1))), (11, .d (.v (.int .i64 (a0.length : Int)))), (12, .d (.v (.int .i64 p.2.2)))]) ((List.replicate (a0.length : Int).toNat 0), (0 : Int), (0 : Int))) (by show _ = _; kernel_rfl) ?_
    refine T_block ?_
    refine T_loopF (ι := (List Int) × Int × Int) (fun (p : (List Int) × Int × Int) => [(0, .d (.sl 1 (a0.map (cI .i64)))), (3, .own 1 (p.1.map (cI .i64))), (4, .d (.v (.int .i64 p.2.1))), (11, .d (.v (.int .i64 (a0.length : Int)))), (12, .d (.v (.int .i64 p.2.2)))]) (fun n p => f22_L0 F a0 n p.1 p.2.1 p.2.2 = some s) (fun i hh => by simp [f22_L0] at hh) (fun n p h => ?_) F ((List.replicate (a0.length : Int).toNat 0), (0 : Int), (0 : Int)) h
    obtain ⟨v5, v6, v1⟩ := p
    have h : f22_L0 F a0 (n + 1) v5 v6 v1 = some s := h
    rw [f22_L0] at h
    refine T_region [] [0, 3, 4, 11, 12, 13] [] [(0, .d (.sl 1 (a0.map (cI .i64)))), (3, .own 1 (v5.map (cI .i64))), (4, .d (.v (.int .i64 v6))), (11, .d (.v (.int .i64 (a0.length : Int)))), (12, .d (.v (.int .i64 v1))), (13, .d (.v (.bool (decide (v1 < (a0.length : Int))))))] [] 1 (by kernel_rfl) (trivial) ?_
    refine T_seqk ?_
    refine T_cond (decide (v1 < (a0.length : Int))) (by kernel_rfl) (fun hc => ?_) (fun hc => ?_)
    · have h := cond_tt hc h
      refine T_skip fun a w hm => then_norm (((?_ : T Try.prog e 53 _ _ _) a w hm))
      refine T_seqk ?_
      refine T_block ?_
      refine T_region [] [0, 3, 4, 5, 11, 12] [] [(0, .d (.sl 1 (a0.map (cI .i64)))), (3, .own 1 (v5.map (cI .i64))), (4, .d (.v (.int .i64 v6))), (5, .d (.v (.int .i64 v1))), (11, .d (.v (.int .i64 (a0.length : Int)))), (12, .d (.v (.int .i64 v1)))] [] 2 (by kernel_rfl) (trivial) ?_
      obtain ⟨hp2, h⟩ := chk_ok h
      refine T_region [(3, { cs := (cI .i64) (v5.getD v1.toNat 0), es := some ((v5.set v1.toNat (1 : Int)).map (cI .i64)) })] [0, 3, 4, 5, 11, 12] [] [(0, .d (.sl 1 (a0.map (cI .i64)))), (3, .own 1 ((v5.set v1.toNat (1 : Int)).map (cI .i64))), (4, .d (.v (.int .i64 v6))), (5, .d (.v (.int .i64 v1))), (11, .d (.v (.int .i64 (a0.length : Int)))), (12, .d (.v (.int .i64 v1)))] [(2, 0 ≤ v1 ∧ v1 < (v5.map (cI .i64)).length), (0, (v5.map (cI .i64))[v1.toNat]? = some ((cI .i64) (v5.getD v1.toNat 0)) ∧ (v5.map (cI .i64)).set v1.toNat ((cI .i64) (1 : Int)) = ((v5.set v1.toNat (1 : Int)).map (cI .i64)))] 0 (by kernel_rfl) (⟨own_idx (cI .i64) hp2, ⟨(idx_ok (d := 0) (cI .i64) hp2).2, set_ok (cI .i64) rfl⟩⟩) ?_
      refine T_seqk ?_
      refine T_region [] [0, 3, 4, 5, 11, 12, 18, 19] [] [(0, .d (.sl 1 (a0.map (cI .i64)))), (3, .own 1 ((v5.set v1.toNat (1 : Int)).map (cI .i64))), (4, .d (.v (.int .i64 v6))), (5, .d (.v (.int .i64 v1))), (11, .d (.v (.int .i64 (a0.length : Int)))), (12, .d (.v (.int .i64 v1))), (18, .d (.v (.int .i64 v1))), (19, .d (.v (.int .i64 (0 : Int))))] [] 2 (by kernel_rfl) (trivial) ?_
      refine T_joinct h (fun (p : (List Int)) => [(0, .d (.sl 1 (a0.map (cI .i64)))), (3, .own 1 (p.map (cI .i64))), (4, .d (.v (.int .i64 v6))), (5, .d (.v (.int .i64 v1))), (11, .d (.v (.int .i64 (a0.length : Int)))), (12, .d (.v (.int .i64 v1)))]) (fun s h => ?_) (fun v7 h => ?_)
      · refine T_co [.keep [0, 3, 4, 5, 11, 12, 18, 19]] ((fun (p : (List Int) × Int) => [(0, .d (.sl 1 (a0.map (cI .i64)))), (3, .own 1 (p.1.map (cI .i64))), (4, .d (.v (.int .i64 v6))), (5, .d (.v (.int .i64 v1))), (11, .d (.v (.int .i64 (a0.length : Int)))), (12, .d (.v (.int .i64 v1))), (18, .d (.v (.int .i64 v1))), (19, .d (.v (.int .i64 p.2)))]) ((v5.set v1.toNat (1 : Int)), (0 : Int))) (by show _ = _; kernel_rfl) ?_
        refine T_block ?_
        refine T_loopF (ι := (List Int) × Int) (fun (p : (List Int) × Int) => [(0, .d (.sl 1 (a0.map (cI .i64)))), (3, .own 1 (p.1.map (cI .i64))), (4, .d (.v (.int .i64 v6))), (5, .d (.v (.int .i64 v1))), (11, .d (.v (.int .i64 (a0.length : Int)))), (12, .d (.v (.int .i64 v1))), (18, .d (.v (.int .i64 v1))), (19, .d (.v (.int .i64 p.2)))]) (fun n p => f22_L2 F a0 v1 n p.1 p.2 = some s) (fun i hh => by simp [f22_L2] at hh) (fun n p h => ?_) F ((v5.set v1.toNat (1 : Int)), (0 : Int)) h
        obtain ⟨v2, v3⟩ := p
        have h : f22_L2 F a0 v1 (n + 1) v2 v3 = some s := h
        rw [f22_L2] at h
        refine T_region [] [0, 3, 4, 5, 11, 12, 18, 19, 20] [] [(0, .d (.sl 1 (a0.map (cI .i64)))), (3, .own 1 (v2.map (cI .i64))), (4, .d (.v (.int .i64 v6))), (5, .d (.v (.int .i64 v1))), (11, .d (.v (.int .i64 (a0.length : Int)))), (12, .d (.v (.int .i64 v1))), (18, .d (.v (.int .i64 v1))), (19, .d (.v (.int .i64 v3))), (20, .d (.v (.bool (decide (v3 < v1)))))] [] 1 (by kernel_rfl) (trivial) ?_
        refine T_seqk ?_
        refine T_cond (decide (v3 < v1)) (by kernel_rfl) (fun hc => ?_) (fun hc => ?_)
        · have h := cond_tt hc h
          refine T_skip fun a w hm => then_norm (((?_ : T Try.prog e 53 _ _ _) a w hm))
          refine T_joinc h (fun (p : (List Int)) => [(0, .d (.sl 1 (a0.map (cI .i64)))), (3, .own 1 (p.map (cI .i64))), (4, .d (.v (.int .i64 v6))), (5, .d (.v (.int .i64 v1))), (11, .d (.v (.int .i64 (a0.length : Int)))), (12, .d (.v (.int .i64 v1))), (18, .d (.v (.int .i64 v1))), (19, .d (.v (.int .i64 v3)))]) (fun s h => ?_) (fun v4 h => ?_)
          · refine T_block ?_
            refine T_region [] [0, 3, 4, 5, 6, 11, 12, 18, 19] [] [(0, .d (.sl 1 (a0.map (cI .i64)))), (3, .own 1 (v2.map (cI .i64))), (4, .d (.v (.int .i64 v6))), (5, .d (.v (.int .i64 v1))), (6, .d (.v (.int .i64 v3))), (11, .d (.v (.int .i64 (a0.length : Int)))), (12, .d (.v (.int .i64 v1))), (18, .d (.v (.int .i64 v1))), (19, .d (.v (.int .i64 v3)))] [] 2 (by kernel_rfl) (trivial) ?_
            obtain ⟨hp3, h⟩ := chk_ok h
            obtain ⟨hp4, h⟩ := chk_ok h
            refine T_draw mixed [(2, { cs := (cI .i64) (a0.getD v3.toNat 0) }), (6, { cs := (cI .i64) (a0.getD v1.toNat 0) })] [0, 3, 4, 5, 6, 11, 12, 18, 19, 30] [] [(0, .d (.sl 1 (a0.map (cI .i64)))), (3, .own 1 (v2.map (cI .i64))), (4, .d (.v (.int .i64 v6))), (5, .d (.v (.int .i64 v1))), (6, .d (.v (.int .i64 v3))), (11, .d (.v (.int .i64 (a0.length : Int)))), (12, .d (.v (.int .i64 v1))), (18, .d (.v (.int .i64 v1))), (19, .d (.v (.int .i64 v3))), (30, .d (.v (.bool (decide ((a0.getD v3.toNat 0) < (a0.getD v1.toNat 0))))))] [(2, 0 ≤ v3 ∧ (a0.map (cI .i64))[v3.toNat]? = some ((cI .i64) (a0.getD v3.toNat 0))), (3, 0 ≤ v1 ∧ (a0.map (cI .i64))[v1.toNat]? = some ((cI .i64) (a0.getD v1.toNat 0)))] 2 (by kernel_rfl) (⟨idx_ok (d := 0) (cI .i64) hp3, idx_ok (d := 0) (cI .i64) hp4⟩) ?_
            refine T_cond (decide ((a0.getD v3.toNat 0) < (a0.getD v1.toNat 0))) (by kernel_rfl) (fun hc => ?_) (fun hc => ?_)
            · have h := cond_tt hc h
              obtain ⟨hp5, h⟩ := chk_ok h
              obtain ⟨hp6, h⟩ := chk_ok h
              obtain ⟨z1, hz1, h⟩ := lett_ok h
              obtain ⟨hp7, h⟩ := chk_ok h
              obtain hs := Option.some.inj h; subst hs
              refine T_drawS_end mixed 13 [(5, { cs := (cI .i64) (v2.getD v1.toNat 0) }), (9, { cs := (cI .i64) (v2.getD v3.toNat 0) }), (11, { rw := some (.d (.v (.int .i64 z1))) }), (13, { cs := (cI .i64) (v2.getD v1.toNat 0), es := some ((v2.set v1.toNat z1).map (cI .i64)) })] [0, 3, 4, 5, 11, 12, 18, 19] [] [(0, .d (.sl 1 (a0.map (cI .i64)))), (3, .own 1 ((v2.set v1.toNat z1).map (cI .i64))), (4, .d (.v (.int .i64 v6))), (5, .d (.v (.int .i64 v1))), (11, .d (.v (.int .i64 (a0.length : Int)))), (12, .d (.v (.int .i64 v1))), (18, .d (.v (.int .i64 v1))), (19, .d (.v (.int .i64 v3)))] [(4, 0 ≤ v1 ∧ v1 < (v2.map (cI .i64)).length), (0, (v2.map (cI .i64))[v1.toNat]? = some ((cI .i64) (v2.getD v1.toNat 0))), (2, 0 ≤ v3 ∧ v3 < (v2.map (cI .i64)).length), (0, (v2.map (cI .i64))[v3.toNat]? = some ((cI .i64) (v2.getD v3.toNat 0))), (1, (True) ∧ AV.d (.v (.int .i64 (if (v2.getD v1.toNat 0) < (IntKind.i64.wrap ((v2.getD v3.toNat 0) + (1 : Int))) then (IntKind.i64.wrap ((v2.getD v3.toNat 0) + (1 : Int))) else (v2.getD v1.toNat 0)))) = .d (.v (.int .i64 z1))), (0, 0 ≤ v1 ∧ v1 < (v2.map (cI .i64)).length), (0, (v2.map (cI .i64))[v1.toNat]? = some ((cI .i64) (v2.getD v1.toNat 0)) ∧ (v2.map (cI .i64)).set v1.toNat ((cI .i64) z1) = ((v2.set v1.toNat z1).map (cI .i64)))] 0 (by kernel_rfl) (⟨own_idx (cI .i64) hp5, (idx_ok (d := 0) (cI .i64) hp5).2, own_idx (cI .i64) hp6, (idx_ok (d := 0) (cI .i64) hp6).2, ⟨trivial, (by subst hz1; rfl)⟩, own_idx (cI .i64) hp7, ⟨(idx_ok (d := 0) (cI .i64) hp7).2, set_ok (cI .i64) rfl⟩⟩) fun a w hm => inBlock_norm (then_norm (hm.co (cs := [.keep [0, 3, 4, 5, 11, 12, 18, 19]]) (by show _ = _; kernel_rfl)))
            · have h := cond_ff hc h
              obtain hs := Option.some.inj h; subst hs
              refine T_skip fun a w hm => inBlock_norm (then_norm (hm.co (cs := [.keep [0, 3, 4, 5, 11, 12, 18, 19]]) (by show _ = _; kernel_rfl)))
          · skip
            refine T_region_end [] [0, 3, 4, 5, 11, 12, 18, 19] [] [(0, .d (.sl 1 (a0.map (cI .i64)))), (3, .own 1 (v4.map (cI .i64))), (4, .d (.v (.int .i64 v6))), (5, .d (.v (.int .i64 v1))), (11, .d (.v (.int .i64 (a0.length : Int)))), (12, .d (.v (.int .i64 v1))), (18, .d (.v (.int .i64 v1))), (19, .d (.v (.int .i64 (IntKind.i64.wrap (v3 + (1 : Int))))))] [] 2 (by kernel_rfl) (trivial) fun a w hm => then_norm (⟨(v4, IntKind.i64.wrap (v3 + (1 : Int))), h, hm.co (cs := [.keep [0, 3, 4, 5, 11, 12, 18, 19]]) (by show _ = _; kernel_rfl)⟩)
        · have h := cond_ff hc h
          obtain hs := Option.some.inj h; subst hs
          refine T_exit fun a w hm => then_exit (then_exit (inBlock_exit (then_norm (hm.co (cs := [.keep [0, 3, 4, 5, 11, 12]]) (by show _ = _; kernel_rfl)))))
      · skip
        refine fun a w hm => then_norm (((?_ : T Try.prog e 53 _ _ _) a w hm))
        obtain ⟨hp8, h⟩ := chk_ok h
        refine T_region_end [(4, { cs := (cI .i64) (v7.getD v1.toNat 0) })] [0, 3, 4, 11, 12] [] [(0, .d (.sl 1 (a0.map (cI .i64)))), (3, .own 1 (v7.map (cI .i64))), (4, .d (.v (.int .i64 (if v6 < (v7.getD v1.toNat 0) then (v7.getD v1.toNat 0) else v6)))), (11, .d (.v (.int .i64 (a0.length : Int)))), (12, .d (.v (.int .i64 v1)))] [(3, 0 ≤ v1 ∧ v1 < (v7.map (cI .i64)).length), (0, (v7.map (cI .i64))[v1.toNat]? = some ((cI .i64) (v7.getD v1.toNat 0)))] 2 (by kernel_rfl) (⟨own_idx (cI .i64) hp8, (idx_ok (d := 0) (cI .i64) hp8).2⟩) fun a w hm => inBlock_norm (then_norm (((?_ : T Try.prog e 53 _ _ _) a w hm)))
        refine T_region_end [] [0, 3, 4, 11, 12] [] [(0, .d (.sl 1 (a0.map (cI .i64)))), (3, .own 1 (v7.map (cI .i64))), (4, .d (.v (.int .i64 (if v6 < (v7.getD v1.toNat 0) then (v7.getD v1.toNat 0) else v6)))), (11, .d (.v (.int .i64 (a0.length : Int)))), (12, .d (.v (.int .i64 (IntKind.i64.wrap (v1 + (1 : Int))))))] [] 2 (by kernel_rfl) (trivial) fun a w hm => then_norm (⟨(v7, (if v6 < (v7.getD v1.toNat 0) then (v7.getD v1.toNat 0) else v6), IntKind.i64.wrap (v1 + (1 : Int))), h, hm.co (cs := [.keep [0, 3, 4, 11, 12]]) (by show _ = _; kernel_rfl)⟩)
    · have h := cond_ff hc h
      obtain hs := Option.some.inj h; subst hs
      refine T_exit fun a w hm => then_exit (then_exit (inBlock_exit (then_norm (hm.co (cs := [.keep [4]]) (by show _ = _; kernel_rfl)))))
  · skip
    refine fun a w hm => then_norm (((?_ : T Try.prog e 53 _ _ _) a w hm))
    refine T_region [] [2] [] [(2, .d (.v (.int .i64 v8)))] [] 2 (by kernel_rfl) (trivial) ?_
    obtain hs := Option.some.inj h; subst hs
    refine T_ret fun a w hm => T_return (fr' := [(2, .d (.v (.int .i64 v8)))]) [2] (by kernel_rfl) [.keep [2]] (by kernel_rfl) (by kernel_rfl) (by kernel_rfl) (by show _ = _; kernel_rfl) (by exact trivial) a w hm

theorem f15_ok {F : Nat} {a0 : List Int} {r : (List Bool)} (h : f15 F a0 = some r) : ACall Try.prog 15 [.d (.sl 1 (a0.map (cI .i64)))] [] (.own 1 (r.map cB)) [] := by
  rw [f15] at h
  refine ACall.intro (N := 79) Try.func15 rfl rfl rfl rfl rfl fun e => ?_
  refine T_region [] [0] [] [(0, .d (.sl 1 (a0.map (cI .i64))))] [] 1 (by kernel_rfl) (trivial) ?_
  obtain ⟨hp1, h⟩ := chk_ok h
  refine T_region [(1, { rw := some (.d (.v (.int .i64 (a0.length : Int)))) }), (2, { es := some ((List.replicate (a0.length : Int).toNat false).map cB) })] [0, 3] [] [(0, .d (.sl 1 (a0.map (cI .i64)))), (3, .own 1 ((List.replicate (a0.length : Int).toNat false).map cB))] [(1, True ∧ AV.d (.v (.int .i64 ((a0.map (cI .i64)).length : Int))) = .d (.v (.int .i64 (a0.length : Int)))), (0, (0 ≤ (a0.length : Int) ∧ (a0.length : Int) ≤ (a0.length : Int) ∧ (a0.length : Int) ≤ 9223372036854775807 ∧ ((1 : Nat) : Int) * (a0.length : Int) ≤ 281474976710656) ∧ List.replicate (a0.length : Int).toNat (cB false) = ((List.replicate (a0.length : Int).toNat false).map cB))] 1 (by kernel_rfl) (⟨len_ok (cI .i64), ⟨hp1, repl_ok cB rfl⟩⟩) ?_
  obtain ⟨y1, hy1, h⟩ := call_ok h
  refine T_region [(1, { res := .d (.v (.int .i64 y1)) })] [0, 3, 4] [] [(0, .d (.sl 1 (a0.map (cI .i64)))), (3, .own 1 ((List.replicate (a0.length : Int).toNat false).map cB)), (4, .d (.v (.int .i64 y1)))] [(1, ACall Try.prog 22 [.d (.sl 1 (a0.map (cI .i64)))] [] (.d (.v (.int .i64 y1))) [])] 1 (by kernel_rfl) (f22_ok hy1) ?_
  refine T_region [] [0, 3, 4, 5] [] [(0, .d (.sl 1 (a0.map (cI .i64)))), (3, .own 1 ((List.replicate (a0.length : Int).toNat false).map cB)), (4, .d (.v (.int .i64 y1))), (5, .own 1 ([].map (cI .i64)))] [] 1 (by kernel_rfl) (trivial) ?_
  refine T_seqk ?_
  refine T_region [(1, { rw := some (.d (.v (.int .i64 (a0.length : Int)))) })] [0, 3, 4, 5, 15, 16] [] [(0, .d (.sl 1 (a0.map (cI .i64)))), (3, .own 1 ((List.replicate (a0.length : Int).toNat false).map cB)), (4, .d (.v (.int .i64 y1))), (5, .own 1 ([].map (cI .i64))), (15, .d (.v (.int .i64 (a0.length : Int)))), (16, .d (.v (.int .i64 (0 : Int))))] [(1, True ∧ AV.d (.v (.int .i64 ((a0.map (cI .i64)).length : Int))) = .d (.v (.int .i64 (a0.length : Int))))] 1 (by kernel_rfl) (len_ok (cI .i64)) ?_
  refine T_joinct h (fun (p : (List Bool)) => [(3, .own 1 (p.map cB))]) (fun s h => ?_) (fun v10 h => ?_)
  · refine T_co [.keep [0, 3, 4, 5, 15, 16]] ((fun (p : (List Bool) × (List Int) × Int) => [(0, .d (.sl 1 (a0.map (cI .i64)))), (3, .own 1 (p.1.map cB)), (4, .d (.v (.int .i64 y1))), (5, .own 1 (p.2.1.map (cI .i64))), (15, .d (.v (.int .i64 (a0.length : Int)))), (16, .d (.v (.int .i64 p.2.2)))]) ((List.replicate (a0.length : Int).toNat false), [], (0 : Int))) (by show _ = _; kernel_rfl) ?_
    refine T_block ?_
    refine T_loopF (ι := (List Bool) × (List Int) × Int) (fun (p : (List Bool) × (List Int) × Int) => [(0, .d (.sl 1 (a0.map (cI .i64)))), (3, .own 1 (p.1.map cB)), (4, .d (.v (.int .i64 y1))), (5, .own 1 (p.2.1.map (cI .i64))), (15, .d (.v (.int .i64 (a0.length : Int)))), (16, .d (.v (.int .i64 p.2.2)))]) (fun n p => f15_L0 F a0 y1 n p.1 p.2.1 p.2.2 = some s) (fun i hh => by simp [f15_L0] at hh) (fun n p h => ?_) F ((List.replicate (a0.length : Int).toNat false), [], (0 : Int)) h
    obtain ⟨v5, v6, v1⟩ := p
    have h : f15_L0 F a0 y1 (n + 1) v5 v6 v1 = some s := h
    rw [f15_L0] at h
    refine T_region [] [0, 3, 4, 5, 15, 16, 17] [] [(0, .d (.sl 1 (a0.map (cI .i64)))), (3, .own 1 (v5.map cB)), (4, .d (.v (.int .i64 y1))), (5, .own 1 (v6.map (cI .i64))), (15, .d (.v (.int .i64 (a0.length : Int)))), (16, .d (.v (.int .i64 v1))), (17, .d (.v (.bool (decide (v1 < (a0.length : Int))))))] [] 1 (by kernel_rfl) (trivial) ?_
    refine T_seqk ?_
    refine T_cond (decide (v1 < (a0.length : Int))) (by kernel_rfl) (fun hc => ?_) (fun hc => ?_)
    · have h := cond_tt hc h
      refine T_skip fun a w hm => then_norm (((?_ : T Try.prog e 79 _ _ _) a w hm))
      refine T_joinc h (fun (p : (List Bool) × (List Int)) => [(0, .d (.sl 1 (a0.map (cI .i64)))), (3, .own 1 (p.1.map cB)), (4, .d (.v (.int .i64 y1))), (5, .own 1 (p.2.map (cI .i64))), (15, .d (.v (.int .i64 (a0.length : Int)))), (16, .d (.v (.int .i64 v1)))]) (fun s h => ?_) (fun s h => ?_)
      · refine T_block ?_
        refine T_region [] [0, 3, 4, 5, 6, 15, 16] [] [(0, .d (.sl 1 (a0.map (cI .i64)))), (3, .own 1 (v5.map cB)), (4, .d (.v (.int .i64 y1))), (5, .own 1 (v6.map (cI .i64))), (6, .d (.v (.int .i64 v1))), (15, .d (.v (.int .i64 (a0.length : Int)))), (16, .d (.v (.int .i64 v1)))] [] 2 (by kernel_rfl) (trivial) ?_
        refine T_seqk ?_
        obtain ⟨hp2, h⟩ := chk_ok h
        obtain ⟨hp3, h⟩ := chk_ok h
        obtain ⟨hp4, h⟩ := chk_ok h
        obtain ⟨z1, hz1, h⟩ := lett_ok h
        refine T_draw mixed [(1, { rw := some (.d (.v (.int .i64 (v6.length : Int)))) }), (7, { rw := some (.d (.v (.int .i64 (v6.length : Int)))) }), (10, { cs := (cI .i64) (v6.getD (IntKind.i64.wrap ((v6.length : Int) - (1 : Int))).toNat 0) }), (11, { cs := (cI .i64) (a0.getD (v6.getD (IntKind.i64.wrap ((v6.length : Int) - (1 : Int))).toNat 0).toNat 0) }), (15, { cs := (cI .i64) (a0.getD v1.toNat 0) }), (17, { rw := some (.d (.v (.bool z1))) })] [0, 3, 4, 5, 6, 15, 16, 37] [] [(0, .d (.sl 1 (a0.map (cI .i64)))), (3, .own 1 (v5.map cB)), (4, .d (.v (.int .i64 y1))), (5, .own 1 (v6.map (cI .i64))), (6, .d (.v (.int .i64 v1))), (15, .d (.v (.int .i64 (a0.length : Int)))), (16, .d (.v (.int .i64 v1))), (37, .d (.v (.bool (bif (decide ((v6.length : Int) > (0 : Int))) then z1 else false))))] [(1, True ∧ AV.d (.v (.int .i64 ((v6.map (cI .i64)).length : Int))) = .d (.v (.int .i64 (v6.length : Int)))), (2, ((((decide ((v6.length : Int) > (0 : Int))) == true) && true) = true → True)), (0, ((((decide ((v6.length : Int) > (0 : Int))) == true) && true) = true → True)), (0, ((((decide ((v6.length : Int) > (0 : Int))) == true) && true) = true → True)), (0, ((((decide ((v6.length : Int) > (0 : Int))) == true) && true) = true → True ∧ AV.d (.v (.int .i64 ((v6.map (cI .i64)).length : Int))) = .d (.v (.int .i64 (v6.length : Int))))), (0, ((((decide ((v6.length : Int) > (0 : Int))) == true) && true) = true → True)), (0, ((((decide ((v6.length : Int) > (0 : Int))) == true) && true) = true → 0 ≤ (IntKind.i64.wrap ((v6.length : Int) - (1 : Int))) ∧ (IntKind.i64.wrap ((v6.length : Int) - (1 : Int))) < (v6.map (cI .i64)).length)), (0, ((((decide ((v6.length : Int) > (0 : Int))) == true) && true) = true → (v6.map (cI .i64))[(IntKind.i64.wrap ((v6.length : Int) - (1 : Int))).toNat]? = some ((cI .i64) (v6.getD (IntKind.i64.wrap ((v6.length : Int) - (1 : Int))).toNat 0)))), (0, ((((decide ((v6.length : Int) > (0 : Int))) == true) && true) = true → 0 ≤ (v6.getD (IntKind.i64.wrap ((v6.length : Int) - (1 : Int))).toNat 0) ∧ (a0.map (cI .i64))[(v6.getD (IntKind.i64.wrap ((v6.length : Int) - (1 : Int))).toNat 0).toNat]? = some ((cI .i64) (a0.getD (v6.getD (IntKind.i64.wrap ((v6.length : Int) - (1 : Int))).toNat 0).toNat 0)))), (0, ((((decide ((v6.length : Int) > (0 : Int))) == true) && true) = true → True)), (0, ((((decide ((v6.length : Int) > (0 : Int))) == true) && true) = true → True)), (0, ((((decide ((v6.length : Int) > (0 : Int))) == true) && true) = true → True)), (0, ((((decide ((v6.length : Int) > (0 : Int))) == true) && true) = true → 0 ≤ v1 ∧ (a0.map (cI .i64))[v1.toNat]? = some ((cI .i64) (a0.getD v1.toNat 0)))), (0, ((((decide ((v6.length : Int) > (0 : Int))) == true) && true) = true → True)), (0, ((((decide ((v6.length : Int) > (0 : Int))) == true) && true) = true → (True) ∧ AV.d (.v (.bool (decide ((a0.getD (v6.getD (IntKind.i64.wrap ((v6.length : Int) - (1 : Int))).toNat 0).toNat 0) ≥ (a0.getD v1.toNat 0))))) = .d (.v (.bool z1))))] 1 (by kernel_rfl) (⟨len_ok (cI .i64), (fun hg => trivial), (fun hg => trivial), (fun hg => trivial), (fun hg => len_ok (cI .i64)), (fun hg => trivial), (fun hg => own_idx (cI .i64) (hp2 hg)), (fun hg => (idx_ok (d := 0) (cI .i64) (hp2 hg)).2), (fun hg => idx_ok (d := 0) (cI .i64) (hp3 hg)), (fun hg => trivial), (fun hg => trivial), (fun hg => trivial), (fun hg => idx_ok (d := 0) (cI .i64) (hp4 hg)), (fun hg => trivial), (fun hg => ⟨trivial, (by subst hz1; rfl)⟩)⟩) ?_
        refine T_cond (bif (decide ((v6.length : Int) > (0 : Int))) then z1 else false) (by kernel_rfl) (fun hc => ?_) (fun hc => ?_)
        · have h := cond_tt hc h
          obtain hs := Option.some.inj h; subst hs
          refine T_exit fun a w hm => then_exit (inBlock_exit (then_norm (hm.co (cs := [.keep [0, 3, 4, 5, 15, 16]]) (by show _ = _; kernel_rfl))))
        · have h := cond_ff hc h
          refine T_skip fun a w hm => then_norm (((?_ : T Try.prog e 79 _ _ _) a w hm))
          refine T_region [] [0, 3, 4, 5, 6, 7, 15, 16] [] [(0, .d (.sl 1 (a0.map (cI .i64)))), (3, .own 1 (v5.map cB)), (4, .d (.v (.int .i64 y1))), (5, .own 1 (v6.map (cI .i64))), (6, .d (.v (.int .i64 v1))), (7, .own 1 ([].map (cI .i64))), (15, .d (.v (.int .i64 (a0.length : Int)))), (16, .d (.v (.int .i64 v1)))] [] 1 (by kernel_rfl) (trivial) ?_
          refine T_seqk ?_
          refine T_region [] [0, 3, 4, 5, 6, 7, 8, 15, 16] [] [(0, .d (.sl 1 (a0.map (cI .i64)))), (3, .own 1 (v5.map cB)), (4, .d (.v (.int .i64 y1))), (5, .own 1 (v6.map (cI .i64))), (6, .d (.v (.int .i64 v1))), (7, .own 1 ([].map (cI .i64))), (8, .d (.v (.int .i64 (IntKind.i64.wrap (v1 + (1 : Int)))))), (15, .d (.v (.int .i64 (a0.length : Int)))), (16, .d (.v (.int .i64 v1)))] [] 3 (by kernel_rfl) (trivial) ?_
          refine T_joinct h (fun (p : (List Int)) => [(0, .d (.sl 1 (a0.map (cI .i64)))), (3, .own 1 (v5.map cB)), (4, .d (.v (.int .i64 y1))), (5, .own 1 (v6.map (cI .i64))), (6, .d (.v (.int .i64 v1))), (7, .own 1 (p.map (cI .i64))), (15, .d (.v (.int .i64 (a0.length : Int)))), (16, .d (.v (.int .i64 v1)))]) (fun s h => ?_) (fun v7 h => ?_)
          · refine T_co [.keep [0, 3, 4, 5, 6, 7, 8, 15, 16]] ((fun (p : (List Int) × Int) => [(0, .d (.sl 1 (a0.map (cI .i64)))), (3, .own 1 (v5.map cB)), (4, .d (.v (.int .i64 y1))), (5, .own 1 (v6.map (cI .i64))), (6, .d (.v (.int .i64 v1))), (7, .own 1 (p.1.map (cI .i64))), (8, .d (.v (.int .i64 p.2))), (15, .d (.v (.int .i64 (a0.length : Int)))), (16, .d (.v (.int .i64 v1)))]) ([], IntKind.i64.wrap (v1 + (1 : Int)))) (by show _ = _; kernel_rfl) ?_
            refine T_block ?_
            refine T_loopF (ι := (List Int) × Int) (fun (p : (List Int) × Int) => [(0, .d (.sl 1 (a0.map (cI .i64)))), (3, .own 1 (v5.map cB)), (4, .d (.v (.int .i64 y1))), (5, .own 1 (v6.map (cI .i64))), (6, .d (.v (.int .i64 v1))), (7, .own 1 (p.1.map (cI .i64))), (8, .d (.v (.int .i64 p.2))), (15, .d (.v (.int .i64 (a0.length : Int)))), (16, .d (.v (.int .i64 v1)))]) (fun n p => f15_L2 F a0 v1 n p.1 p.2 = some s) (fun i hh => by simp [f15_L2] at hh) (fun n p h => ?_) F ([], IntKind.i64.wrap (v1 + (1 : Int))) h
            obtain ⟨v2, v3⟩ := p
            have h : f15_L2 F a0 v1 (n + 1) v2 v3 = some s := h
            rw [f15_L2] at h
            refine T_seqk ?_
            refine T_region [(2, { rw := some (.d (.v (.int .i64 (a0.length : Int)))) })] [0, 3, 4, 5, 6, 7, 8, 15, 16, 43] [] [(0, .d (.sl 1 (a0.map (cI .i64)))), (3, .own 1 (v5.map cB)), (4, .d (.v (.int .i64 y1))), (5, .own 1 (v6.map (cI .i64))), (6, .d (.v (.int .i64 v1))), (7, .own 1 (v2.map (cI .i64))), (8, .d (.v (.int .i64 v3))), (15, .d (.v (.int .i64 (a0.length : Int)))), (16, .d (.v (.int .i64 v1))), (43, .d (.v (.bool (decide (v3 < (a0.length : Int))))))] [(2, True ∧ AV.d (.v (.int .i64 ((a0.map (cI .i64)).length : Int))) = .d (.v (.int .i64 (a0.length : Int))))] 1 (by kernel_rfl) (len_ok (cI .i64)) ?_
            refine T_cond (decide (v3 < (a0.length : Int))) (by kernel_rfl) (fun hc => ?_) (fun hc => ?_)
            · have h := cond_tt hc h
              refine T_skip fun a w hm => then_norm (((?_ : T Try.prog e 79 _ _ _) a w hm))
              refine T_joinc h (fun (p : (List Int)) => [(0, .d (.sl 1 (a0.map (cI .i64)))), (3, .own 1 (v5.map cB)), (4, .d (.v (.int .i64 y1))), (5, .own 1 (v6.map (cI .i64))), (6, .d (.v (.int .i64 v1))), (7, .own 1 (p.map (cI .i64))), (8, .d (.v (.int .i64 v3))), (15, .d (.v (.int .i64 (a0.length : Int)))), (16, .d (.v (.int .i64 v1)))]) (fun s h => ?_) (fun v4 h => ?_)
              · refine T_block ?_
                obtain ⟨hp5, h⟩ := chk_ok h
                obtain ⟨hp6, h⟩ := chk_ok h
                refine T_draw mixed [(2, { cs := (cI .i64) (a0.getD v3.toNat 0) }), (6, { cs := (cI .i64) (a0.getD v1.toNat 0) })] [0, 3, 4, 5, 6, 7, 8, 15, 16, 54] [] [(0, .d (.sl 1 (a0.map (cI .i64)))), (3, .own 1 (v5.map cB)), (4, .d (.v (.int .i64 y1))), (5, .own 1 (v6.map (cI .i64))), (6, .d (.v (.int .i64 v1))), (7, .own 1 (v2.map (cI .i64))), (8, .d (.v (.int .i64 v3))), (15, .d (.v (.int .i64 (a0.length : Int)))), (16, .d (.v (.int .i64 v1))), (54, .d (.v (.bool (decide ((a0.getD v3.toNat 0) > (a0.getD v1.toNat 0))))))] [(2, 0 ≤ v3 ∧ (a0.map (cI .i64))[v3.toNat]? = some ((cI .i64) (a0.getD v3.toNat 0))), (3, 0 ≤ v1 ∧ (a0.map (cI .i64))[v1.toNat]? = some ((cI .i64) (a0.getD v1.toNat 0)))] 2 (by kernel_rfl) (⟨idx_ok (d := 0) (cI .i64) hp5, idx_ok (d := 0) (cI .i64) hp6⟩) ?_
                refine T_cond (decide ((a0.getD v3.toNat 0) > (a0.getD v1.toNat 0))) (by kernel_rfl) (fun hc => ?_) (fun hc => ?_)
                · have h := cond_tt hc h
                  obtain ⟨hp7, h⟩ := chk_ok h
                  obtain ⟨hp8, h⟩ := chk_ok h
                  obtain hs := Option.some.inj h; subst hs
                  refine T_region_end [(3, { cs := (cI .i64) (a0.getD v3.toNat 0) }), (5, { es := some (([(a0.getD v3.toNat 0)]).map (cI .i64)) }), (6, { es := some ((v2 ++ ([(a0.getD v3.toNat 0)])).map (cI .i64)) })] [0, 3, 4, 5, 6, 7, 8, 15, 16] [] [(0, .d (.sl 1 (a0.map (cI .i64)))), (3, .own 1 (v5.map cB)), (4, .d (.v (.int .i64 y1))), (5, .own 1 (v6.map (cI .i64))), (6, .d (.v (.int .i64 v1))), (7, .own 1 ((v2 ++ ([(a0.getD v3.toNat 0)])).map (cI .i64))), (8, .d (.v (.int .i64 v3))), (15, .d (.v (.int .i64 (a0.length : Int)))), (16, .d (.v (.int .i64 v1)))] [(3, 0 ≤ v3 ∧ (a0.map (cI .i64))[v3.toNat]? = some ((cI .i64) (a0.getD v3.toNat 0))), (1, (([(a0.getD v3.toNat 0)]).map (cI .i64)) = (([(a0.getD v3.toNat 0)]).map (cI .i64))), (0, (v2.map (cI .i64)).length + (([(a0.getD v3.toNat 0)]).map (cI .i64)).length ≤ 4294967296 ∧ (v2.map (cI .i64)) ++ (([(a0.getD v3.toNat 0)]).map (cI .i64)) = ((v2 ++ ([(a0.getD v3.toNat 0)])).map (cI .i64)))] 1 (by kernel_rfl) (⟨idx_ok (d := 0) (cI .i64) hp7, rfl, app_ok (cI .i64) hp8⟩) fun a w hm => inBlock_norm (then_norm (hm.co (cs := [.keep [0, 3, 4, 5, 6, 7, 8, 15, 16]]) (by show _ = _; kernel_rfl)))
                · have h := cond_ff hc h
                  obtain hs := Option.some.inj h; subst hs
                  refine T_skip fun a w hm => inBlock_norm (then_norm (hm.co (cs := [.keep [0, 3, 4, 5, 6, 7, 8, 15, 16]]) (by show _ = _; kernel_rfl)))
              · skip
                refine T_region_end [] [0, 3, 4, 5, 6, 7, 8, 15, 16] [] [(0, .d (.sl 1 (a0.map (cI .i64)))), (3, .own 1 (v5.map cB)), (4, .d (.v (.int .i64 y1))), (5, .own 1 (v6.map (cI .i64))), (6, .d (.v (.int .i64 v1))), (7, .own 1 (v4.map (cI .i64))), (8, .d (.v (.int .i64 (IntKind.i64.wrap (v3 + (1 : Int)))))), (15, .d (.v (.int .i64 (a0.length : Int)))), (16, .d (.v (.int .i64 v1)))] [] 3 (by kernel_rfl) (trivial) fun a w hm => then_norm (⟨(v4, IntKind.i64.wrap (v3 + (1 : Int))), h, hm.co (cs := [.keep [0, 3, 4, 5, 6, 7, 8, 15, 16]]) (by show _ = _; kernel_rfl)⟩)
            · have h := cond_ff hc h
              obtain hs := Option.some.inj h; subst hs
              refine T_exit fun a w hm => then_exit (then_exit (inBlock_exit (then_norm (hm.co (cs := [.keep [0, 3, 4, 5, 6, 7, 15, 16]]) (by show _ = _; kernel_rfl)))))
          · skip
            refine fun a w hm => then_norm (((?_ : T Try.prog e 79 _ _ _) a w hm))
            obtain ⟨y2, hy2, h⟩ := call_ok h
            refine T_region [(1, { rw := some (.d (.v (.int .i64 (v6.length : Int)))) }), (4, { res := .d (.v (.int .i64 y2)) })] [0, 3, 4, 5, 6, 15, 16, 69] [] [(0, .d (.sl 1 (a0.map (cI .i64)))), (3, .own 1 (v5.map cB)), (4, .d (.v (.int .i64 y1))), (5, .own 1 (v6.map (cI .i64))), (6, .d (.v (.int .i64 v1))), (15, .d (.v (.int .i64 (a0.length : Int)))), (16, .d (.v (.int .i64 v1))), (69, .d (.v (.bool ((IntKind.i64.wrap ((IntKind.i64.wrap ((v6.length : Int) + (1 : Int))) + y2)) == y1))))] [(1, True ∧ AV.d (.v (.int .i64 ((v6.map (cI .i64)).length : Int))) = .d (.v (.int .i64 (v6.length : Int)))), (2, ACall Try.prog 22 [.d (.sl 1 (v7.map (cI .i64)))] [] (.d (.v (.int .i64 y2))) [])] 3 (by kernel_rfl) (⟨len_ok (cI .i64), f22_ok hy2⟩) ?_
            refine T_cond ((IntKind.i64.wrap ((IntKind.i64.wrap ((v6.length : Int) + (1 : Int))) + y2)) == y1) (by kernel_rfl) (fun hc => ?_) (fun hc => ?_)
            · have h := cond_tt hc h
              obtain ⟨hp9, h⟩ := chk_ok h
              refine T_region [(2, { es := some (([v1]).map (cI .i64)) }), (3, { es := some ((v6 ++ ([v1])).map (cI .i64)) })] [0, 3, 4, 5, 6, 15, 16] [] [(0, .d (.sl 1 (a0.map (cI .i64)))), (3, .own 1 (v5.map cB)), (4, .d (.v (.int .i64 y1))), (5, .own 1 ((v6 ++ ([v1])).map (cI .i64))), (6, .d (.v (.int .i64 v1))), (15, .d (.v (.int .i64 (a0.length : Int)))), (16, .d (.v (.int .i64 v1)))] [(2, (([v1]).map (cI .i64)) = (([v1]).map (cI .i64))), (0, (v6.map (cI .i64)).length + (([v1]).map (cI .i64)).length ≤ 4294967296 ∧ (v6.map (cI .i64)) ++ (([v1]).map (cI .i64)) = ((v6 ++ ([v1])).map (cI .i64)))] 1 (by kernel_rfl) (⟨rfl, app_ok (cI .i64) hp9⟩) ?_
              obtain ⟨hp10, h⟩ := chk_ok h
              obtain hs := Option.some.inj h; subst hs
              refine T_region_end [(3, { cs := cB (v5.getD v1.toNat false), es := some ((v5.set v1.toNat true).map cB) })] [0, 3, 4, 5, 15, 16] [] [(0, .d (.sl 1 (a0.map (cI .i64)))), (3, .own 1 ((v5.set v1.toNat true).map cB)), (4, .d (.v (.int .i64 y1))), (5, .own 1 ((v6 ++ ([v1])).map (cI .i64))), (15, .d (.v (.int .i64 (a0.length : Int)))), (16, .d (.v (.int .i64 v1)))] [(2, 0 ≤ v1 ∧ v1 < (v5.map cB).length), (0, (v5.map cB)[v1.toNat]? = some (cB (v5.getD v1.toNat false)) ∧ (v5.map cB).set v1.toNat (cB true) = ((v5.set v1.toNat true).map cB))] 0 (by kernel_rfl) (⟨own_idx cB hp10, ⟨(idx_ok (d := false) cB hp10).2, set_ok cB rfl⟩⟩) fun a w hm => inBlock_norm (then_norm (hm.co (cs := [.keep [0, 3, 4, 5, 15, 16]]) (by show _ = _; kernel_rfl)))
            · have h := cond_ff hc h
              obtain hs := Option.some.inj h; subst hs
              refine T_skip fun a w hm => inBlock_norm (then_norm (hm.co (cs := [.keep [0, 3, 4, 5, 15, 16]]) (by show _ = _; kernel_rfl)))
      · obtain ⟨v8, v9⟩ := s
        try dsimp only at h
        refine T_region_end [] [0, 3, 4, 5, 15, 16] [] [(0, .d (.sl 1 (a0.map (cI .i64)))), (3, .own 1 (v8.map cB)), (4, .d (.v (.int .i64 y1))), (5, .own 1 (v9.map (cI .i64))), (15, .d (.v (.int .i64 (a0.length : Int)))), (16, .d (.v (.int .i64 (IntKind.i64.wrap (v1 + (1 : Int))))))] [] 2 (by kernel_rfl) (trivial) fun a w hm => then_norm (⟨(v8, v9, IntKind.i64.wrap (v1 + (1 : Int))), h, hm.co (cs := [.keep [0, 3, 4, 5, 15, 16]]) (by show _ = _; kernel_rfl)⟩)
    · have h := cond_ff hc h
      obtain hs := Option.some.inj h; subst hs
      refine T_exit fun a w hm => then_exit (then_exit (inBlock_exit (then_norm (hm.co (cs := [.keep [3]]) (by show _ = _; kernel_rfl)))))
  · skip
    refine fun a w hm => then_norm (((?_ : T Try.prog e 79 _ _ _) a w hm))
    refine T_region [] [2, 3] [] [(2, .vw (3, 0)), (3, .own 1 (v10.map cB))] [] 2 (by kernel_rfl) (trivial) ?_
    obtain hs := Option.some.inj h; subst hs
    refine T_ret fun a w hm => T_return (fr' := [(2, .own 1 (v10.map cB))]) [2] (by kernel_rfl) [.claim 2, .keep [2]] (by kernel_rfl) (by kernel_rfl) (by kernel_rfl) (by show _ = _; kernel_rfl) (by exact trivial) a w hm

theorem f5_ok {F : Nat} {a0 : List Int} {a1 : Int} {r : Bool} (h : f5 F a0 a1 = some r) : ACall Try.prog 5 [.d (.sl 1 (a0.map (cI .i64))), .d (.v (.int .i64 a1))] [] (.d (.v (.bool r))) [] := by
  rw [f5] at h
  refine ACall.intro (N := 182) Try.func5 rfl rfl rfl rfl rfl fun e => ?_
  refine T_region [] [0, 3] [] [(0, .d (.sl 1 (a0.map (cI .i64)))), (3, .box [.d (.v (.int .i64 a1))])] [] 2 (by kernel_rfl) (trivial) ?_
  refine T_seqk ?_
  obtain ⟨y3, hy1, h⟩ := call_ok h
  refine T_region [(0, { es := some (([(0 : Int), (2 : Int), (1 : Int), (2 : Int)]).map (cI .i64)) }), (1, { frz := [(19, 0)], res := .tup [.agg (cS35 y3.1), .d (.v (.int .i64 y3.2))] })] [0, 3, 5, 6] [] [(0, .d (.sl 1 (a0.map (cI .i64)))), (3, .box [.d (.v (.int .i64 a1))]), (5, .box [.d (.sl 1 (y3.1.f0.map (cI .i64))), .d (.sl 1 (y3.1.f1.map (cI .i64))), .d (.sl 1 (y3.1.f2.map (cI .i64)))]), (6, .d (.v (.int .i64 y3.2)))] [(0, (([(0 : Int), (2 : Int), (1 : Int), (2 : Int)]).map (cI .i64)) = (([(0 : Int), (2 : Int), (1 : Int), (2 : Int)]).map (cI .i64))), (0, ACall Try.prog 12 [.d (.sl 1 (([(0 : Int), (2 : Int), (1 : Int), (2 : Int)]).map (cI .i64))), .d (.v (.int .i64 (4 : Int)))] [] (.tup [.agg (cS35 y3.1), .d (.v (.int .i64 y3.2))]) [])] 6 (by kernel_rfl) (⟨rfl, f12_ok hy1⟩) ?_
  obtain ⟨y4, hy2, h⟩ := call_ok h
  obtain ⟨y5, hy3, h⟩ := call_ok h
  obtain ⟨y6, hy4, h⟩ := call_ok h
  obtain ⟨z1, hz1, h⟩ := lett_ok h
  refine T_region [(0, { res := .d (.v (.bool y4)) }), (9, { es := some (([(3 : Int)]).map (cI .i64)) }), (10, { res := .d (.v (.bool y5)) }), (16, { es := some (([(1 : Int)]).map (cI .i64)) }), (17, { res := .d (.v (.bool y6)) }), (19, { rw := some (.d (.v (.bool z1))) }), (23, { rw := some (.d (.v (.int .i64 (y3.1.f2.length : Int)))) })] [0, 3, 48] [] [(0, .d (.sl 1 (a0.map (cI .i64)))), (3, .box [.d (.v (.int .i64 a1))]), (48, .d (.v (.bool (bif z1 then true else ((y3.1.f2.length : Int) != (0 : Int))))))] [(0, ACall Try.prog 6 [] [] (.d (.v (.bool y4))) []), (2, ((((!y4) == false) && true) = true → True)), (0, ((((!y4) == false) && true) = true → True)), (2, ((((bif (!y4) then true else (y3.2 != (0 : Int))) == false) && true) = true → True)), (0, ((((bif (!y4) then true else (y3.2 != (0 : Int))) == false) && true) = true → True)), (0, ((((bif (!y4) then true else (y3.2 != (0 : Int))) == false) && true) = true → (([(3 : Int)]).map (cI .i64)) = (([(3 : Int)]).map (cI .i64)))), (0, ((((bif (!y4) then true else (y3.2 != (0 : Int))) == false) && true) = true → ACall Try.prog 11 [.d (.sl 1 (y3.1.f0.map (cI .i64))), .d (.sl 1 (([(3 : Int)]).map (cI .i64)))] [] (.d (.v (.bool y5))) [])), (0, ((((bif (!y4) then true else (y3.2 != (0 : Int))) == false) && true) = true → True)), (2, ((((bif (bif (!y4) then true else (y3.2 != (0 : Int))) then true else (!y5)) == false) && true) = true → True)), (0, ((((bif (bif (!y4) then true else (y3.2 != (0 : Int))) then true else (!y5)) == false) && true) = true → True)), (0, ((((bif (bif (!y4) then true else (y3.2 != (0 : Int))) then true else (!y5)) == false) && true) = true → (([(1 : Int)]).map (cI .i64)) = (([(1 : Int)]).map (cI .i64)))), (0, ((((bif (bif (!y4) then true else (y3.2 != (0 : Int))) then true else (!y5)) == false) && true) = true → ACall Try.prog 11 [.d (.sl 1 (y3.1.f1.map (cI .i64))), .d (.sl 1 (([(1 : Int)]).map (cI .i64)))] [] (.d (.v (.bool y6))) [])), (0, ((((bif (bif (!y4) then true else (y3.2 != (0 : Int))) then true else (!y5)) == false) && true) = true → True)), (0, (True) ∧ AV.d (.v (.bool (bif (bif (bif (!y4) then true else (y3.2 != (0 : Int))) then true else (!y5)) then true else (!y6)))) = .d (.v (.bool z1))), (1, (((z1 == false) && true) = true → True)), (0, (((z1 == false) && true) = true → True)), (0, (((z1 == false) && true) = true → True ∧ AV.d (.v (.int .i64 ((y3.1.f2.map (cI .i64)).length : Int))) = .d (.v (.int .i64 (y3.1.f2.length : Int))))), (0, (((z1 == false) && true) = true → True))] 1 (by kernel_rfl) (⟨f6_ok hy2, (fun hg => trivial), (fun hg => trivial), (fun hg => trivial), (fun hg => trivial), (fun hg => rfl), (fun hg => f11_ok (gcall_ok hg hy3)), (fun hg => trivial), (fun hg => trivial), (fun hg => trivial), (fun hg => rfl), (fun hg => f11_ok (gcall_ok hg hy4)), (fun hg => trivial), ⟨trivial, (by subst hz1; rfl)⟩, (fun hg => trivial), (fun hg => trivial), (fun hg => len_ok (cI .i64)), (fun hg => trivial)⟩) ?_
  refine T_cond (bif z1 then true else ((y3.1.f2.length : Int) != (0 : Int))) (by kernel_rfl) (fun hc => ?_) (fun hc => ?_)
  · have h := cond_tt hc h
    refine T_region [] [4] [] [(4, .d (.v (.bool false)))] [] 1 (by kernel_rfl) (trivial) ?_
    obtain hs := Option.some.inj h; subst hs
    refine T_ret fun a w hm => then_ret (T_return (fr' := [(4, .d (.v (.bool false)))]) [4] (by kernel_rfl) [.keep [4]] (by kernel_rfl) (by kernel_rfl) (by kernel_rfl) (by show _ = _; kernel_rfl) (by exact trivial) a w hm)
  · have h := cond_ff hc h
    refine T_skip fun a w hm => then_norm (((?_ : T Try.prog e 182 _ _ _) a w hm))
    obtain ⟨y7, hy5, h⟩ := call_ok h
    refine T_region [(2, { res := .tup [.agg (cS35 y7.1), .d (.v (.int .i64 y7.2))] })] [0, 3, 7, 8] [] [(0, .d (.sl 1 (a0.map (cI .i64)))), (3, .box [.d (.v (.int .i64 a1))]), (7, .box [.d (.sl 1 (y7.1.f0.map (cI .i64))), .d (.sl 1 (y7.1.f1.map (cI .i64))), .d (.sl 1 (y7.1.f2.map (cI .i64)))]), (8, .d (.v (.int .i64 y7.2)))] [(2, ACall Try.prog 12 [.d (.sl 1 (a0.map (cI .i64))), .d (.v (.int .i64 a1))] [] (.tup [.agg (cS35 y7.1), .d (.v (.int .i64 y7.2))]) [])] 6 (by kernel_rfl) (f12_ok hy5) ?_
    refine T_region [] [0, 3, 7, 8, 9] [] [(0, .d (.sl 1 (a0.map (cI .i64)))), (3, .box [.d (.v (.int .i64 a1))]), (7, .box [.d (.sl 1 (y7.1.f0.map (cI .i64))), .d (.sl 1 (y7.1.f1.map (cI .i64))), .d (.sl 1 (y7.1.f2.map (cI .i64)))]), (8, .d (.v (.int .i64 y7.2))), (9, .d (.v (.int .i64 (0 : Int))))] [] 1 (by kernel_rfl) (trivial) ?_
    refine T_joinc h (fun (p : Int × Int) => [(0, .d (.sl 1 (a0.map (cI .i64)))), (3, .box [.d (.v (.int .i64 p.2))]), (7, .box [.d (.sl 1 (y7.1.f0.map (cI .i64))), .d (.sl 1 (y7.1.f1.map (cI .i64))), .d (.sl 1 (y7.1.f2.map (cI .i64)))]), (8, .d (.v (.int .i64 y7.2))), (9, .d (.v (.int .i64 p.1)))]) (fun s h => ?_) (fun s h => ?_)
    · refine T_block ?_
      refine T_region [] [0, 3, 7, 8, 9, 55] [] [(0, .d (.sl 1 (a0.map (cI .i64)))), (3, .box [.d (.v (.int .i64 a1))]), (7, .box [.d (.sl 1 (y7.1.f0.map (cI .i64))), .d (.sl 1 (y7.1.f1.map (cI .i64))), .d (.sl 1 (y7.1.f2.map (cI .i64)))]), (8, .d (.v (.int .i64 y7.2))), (9, .d (.v (.int .i64 (0 : Int)))), (55, .d (.v (.bool (bif (decide (a1 < (1 : Int))) then true else (decide (a1 > (64 : Int)))))))] [(3, ((((decide (a1 < (1 : Int))) == false) && true) = true → True)), (0, ((((decide (a1 < (1 : Int))) == false) && true) = true → True))] 2 (by kernel_rfl) (⟨(fun hg => trivial), (fun hg => trivial)⟩) ?_
      refine T_cond (bif (decide (a1 < (1 : Int))) then true else (decide (a1 > (64 : Int)))) (by kernel_rfl) (fun hc => ?_) (fun hc => ?_)
      · have h := cond_tt hc h
        obtain hs := Option.some.inj h; subst hs
        refine T_region_end [] [0, 3, 7, 8, 9] [] [(0, .d (.sl 1 (a0.map (cI .i64)))), (3, .box [.d (.v (.int .i64 a1))]), (7, .box [.d (.sl 1 (y7.1.f0.map (cI .i64))), .d (.sl 1 (y7.1.f1.map (cI .i64))), .d (.sl 1 (y7.1.f2.map (cI .i64)))]), (8, .d (.v (.int .i64 y7.2))), (9, .d (.v (.int .i64 (3 : Int))))] [] 1 (by kernel_rfl) (trivial) fun a w hm => inBlock_norm (then_norm (hm.co (cs := [.keep [0, 3, 7, 8, 9]]) (by show _ = _; kernel_rfl)))
      · have h := cond_ff hc h
        refine T_region [(1, { rw := some (.d (.v (.int .i64 (a0.length : Int)))) })] [0, 3, 7, 8, 9, 62] [] [(0, .d (.sl 1 (a0.map (cI .i64)))), (3, .box [.d (.v (.int .i64 a1))]), (7, .box [.d (.sl 1 (y7.1.f0.map (cI .i64))), .d (.sl 1 (y7.1.f1.map (cI .i64))), .d (.sl 1 (y7.1.f2.map (cI .i64)))]), (8, .d (.v (.int .i64 y7.2))), (9, .d (.v (.int .i64 (0 : Int)))), (62, .d (.v (.bool (decide ((a0.length : Int) > (64 : Int))))))] [(1, True ∧ AV.d (.v (.int .i64 ((a0.map (cI .i64)).length : Int))) = .d (.v (.int .i64 (a0.length : Int))))] 2 (by kernel_rfl) (len_ok (cI .i64)) ?_
        refine T_cond (decide ((a0.length : Int) > (64 : Int))) (by kernel_rfl) (fun hc => ?_) (fun hc => ?_)
        · have h := cond_tt hc h
          obtain hs := Option.some.inj h; subst hs
          refine T_region_end [] [0, 3, 7, 8, 9] [] [(0, .d (.sl 1 (a0.map (cI .i64)))), (3, .box [.d (.v (.int .i64 a1))]), (7, .box [.d (.sl 1 (y7.1.f0.map (cI .i64))), .d (.sl 1 (y7.1.f1.map (cI .i64))), .d (.sl 1 (y7.1.f2.map (cI .i64)))]), (8, .d (.v (.int .i64 y7.2))), (9, .d (.v (.int .i64 (2 : Int))))] [] 1 (by kernel_rfl) (trivial) fun a w hm => inBlock_norm (then_norm (hm.co (cs := [.keep [0, 3, 7, 8, 9]]) (by show _ = _; kernel_rfl)))
        · have h := cond_ff hc h
          obtain ⟨y8, hy6, h⟩ := call_ok h
          refine T_region [(2, { res := .d (.v (.bool y8.1)), vout := [[.d (.v (.int .i64 y8.2))]], xs := [3] })] [0, 3, 7, 8, 9, 66] [] [(0, .d (.sl 1 (a0.map (cI .i64)))), (3, .box [.d (.v (.int .i64 y8.2))]), (7, .box [.d (.sl 1 (y7.1.f0.map (cI .i64))), .d (.sl 1 (y7.1.f1.map (cI .i64))), .d (.sl 1 (y7.1.f2.map (cI .i64)))]), (8, .d (.v (.int .i64 y7.2))), (9, .d (.v (.int .i64 (0 : Int)))), (66, .d (.v (.bool y8.1)))] [(2, ACall Try.prog 13 [.d (.sl 1 (a0.map (cI .i64))), .clo 14 [.bp 1000000 0]] [[.d (.v (.int .i64 a1))]] (.d (.v (.bool y8.1))) [[.d (.v (.int .i64 y8.2))]])] 1 (by kernel_rfl) (f13_1_ok hy6) ?_
          refine T_cond y8.1 (by kernel_rfl) (fun hc => ?_) (fun hc => ?_)
          · have h := cond_tt hc h
            obtain hs := Option.some.inj h; subst hs
            refine T_region_end [] [0, 3, 7, 8, 9] [] [(0, .d (.sl 1 (a0.map (cI .i64)))), (3, .box [.d (.v (.int .i64 y8.2))]), (7, .box [.d (.sl 1 (y7.1.f0.map (cI .i64))), .d (.sl 1 (y7.1.f1.map (cI .i64))), .d (.sl 1 (y7.1.f2.map (cI .i64)))]), (8, .d (.v (.int .i64 y7.2))), (9, .d (.v (.int .i64 (3 : Int))))] [] 1 (by kernel_rfl) (trivial) fun a w hm => inBlock_norm (then_norm (hm.co (cs := [.keep [0, 3, 7, 8, 9]]) (by show _ = _; kernel_rfl)))
          · have h := cond_ff hc h
            obtain hs := Option.some.inj h; subst hs
            refine T_skip fun a w hm => inBlock_norm (then_norm (hm.co (cs := [.keep [0, 3, 7, 8, 9]]) (by show _ = _; kernel_rfl)))
    · obtain ⟨v14, v4⟩ := s
      try dsimp only at h
      refine T_seqk ?_
      refine T_region [] [0, 3, 7, 8, 9, 71] [] [(0, .d (.sl 1 (a0.map (cI .i64)))), (3, .box [.d (.v (.int .i64 v4))]), (7, .box [.d (.sl 1 (y7.1.f0.map (cI .i64))), .d (.sl 1 (y7.1.f1.map (cI .i64))), .d (.sl 1 (y7.1.f2.map (cI .i64)))]), (8, .d (.v (.int .i64 y7.2))), (9, .d (.v (.int .i64 v14))), (71, .d (.v (.bool (v14 != (0 : Int)))))] [] 2 (by kernel_rfl) (trivial) ?_
      refine T_cond (v14 != (0 : Int)) (by kernel_rfl) (fun hc => ?_) (fun hc => ?_)
      · have h := cond_tt hc h
        obtain ⟨z2, hz2, h⟩ := lett_ok h
        refine T_region [(6, { rw := some (.d (.v (.int .i64 (y7.1.f0.length : Int)))) }), (9, { rw := some (.d (.v (.int .i64 (y7.1.f1.length : Int)))) }), (13, { rw := some (.d (.v (.int .i64 (y7.1.f2.length : Int)))) }), (14, { rw := some (.d (.v (.int .i64 z2))) })] [4] [] [(4, .d (.v (.bool (bif (y7.2 == v14) then (z2 == (0 : Int)) else false))))] [(4, ((((y7.2 == v14) == true) && true) = true → True)), (0, ((((y7.2 == v14) == true) && true) = true → True)), (0, ((((y7.2 == v14) == true) && true) = true → True ∧ AV.d (.v (.int .i64 ((y7.1.f0.map (cI .i64)).length : Int))) = .d (.v (.int .i64 (y7.1.f0.length : Int))))), (0, ((((y7.2 == v14) == true) && true) = true → True)), (0, ((((y7.2 == v14) == true) && true) = true → True)), (0, ((((y7.2 == v14) == true) && true) = true → True ∧ AV.d (.v (.int .i64 ((y7.1.f1.map (cI .i64)).length : Int))) = .d (.v (.int .i64 (y7.1.f1.length : Int))))), (0, ((((y7.2 == v14) == true) && true) = true → True)), (0, ((((y7.2 == v14) == true) && true) = true → True)), (0, ((((y7.2 == v14) == true) && true) = true → True)), (0, ((((y7.2 == v14) == true) && true) = true → True ∧ AV.d (.v (.int .i64 ((y7.1.f2.map (cI .i64)).length : Int))) = .d (.v (.int .i64 (y7.1.f2.length : Int))))), (0, ((((y7.2 == v14) == true) && true) = true → (True) ∧ AV.d (.v (.int .i64 (IntKind.i64.wrap ((IntKind.i64.wrap ((y7.1.f0.length : Int) + (y7.1.f1.length : Int))) + (y7.1.f2.length : Int))))) = .d (.v (.int .i64 z2)))), (0, ((((y7.2 == v14) == true) && true) = true → True))] 2 (by kernel_rfl) (⟨(fun hg => trivial), (fun hg => trivial), (fun hg => len_ok (cI .i64)), (fun hg => trivial), (fun hg => trivial), (fun hg => len_ok (cI .i64)), (fun hg => trivial), (fun hg => trivial), (fun hg => trivial), (fun hg => len_ok (cI .i64)), (fun hg => ⟨trivial, (by subst hz2; rfl)⟩), (fun hg => trivial)⟩) ?_
        obtain hs := Option.some.inj h; subst hs
        refine T_ret fun a w hm => then_ret (T_return (fr' := [(4, .d (.v (.bool (bif (y7.2 == v14) then (z2 == (0 : Int)) else false))))]) [4] (by kernel_rfl) [.keep [4]] (by kernel_rfl) (by kernel_rfl) (by kernel_rfl) (by show _ = _; kernel_rfl) (by exact trivial) a w hm)
      · have h := cond_ff hc h
        refine T_skip fun a w hm => then_norm (((?_ : T Try.prog e 182 _ _ _) a w hm))
        obtain ⟨y1, hy7, h⟩ := call_ok h
        refine T_region [(1, { res := .own 1 (y1.map cB) })] [0, 3, 7, 8, 10] [] [(0, .d (.sl 1 (a0.map (cI .i64)))), (3, .box [.d (.v (.int .i64 v4))]), (7, .box [.d (.sl 1 (y7.1.f0.map (cI .i64))), .d (.sl 1 (y7.1.f1.map (cI .i64))), .d (.sl 1 (y7.1.f2.map (cI .i64)))]), (8, .d (.v (.int .i64 y7.2))), (10, .own 1 (y1.map cB))] [(1, ACall Try.prog 15 [.d (.sl 1 (a0.map (cI .i64)))] [] (.own 1 (y1.map cB)) [])] 1 (by kernel_rfl) (f15_ok hy7) ?_
        refine T_region [] [0, 3, 7, 8, 10, 11] [] [(0, .d (.sl 1 (a0.map (cI .i64)))), (3, .box [.d (.v (.int .i64 v4))]), (7, .box [.d (.sl 1 (y7.1.f0.map (cI .i64))), .d (.sl 1 (y7.1.f1.map (cI .i64))), .d (.sl 1 (y7.1.f2.map (cI .i64)))]), (8, .d (.v (.int .i64 y7.2))), (10, .own 1 (y1.map cB)), (11, .box [.own 1 ([].map (cI .i64)), .own 1 ([].map (cI .i64)), .own 1 ([].map (cI .i64))])] [] 1 (by kernel_rfl) (trivial) ?_
        obtain ⟨hp1, h⟩ := chk_ok h
        refine T_region [(1, { es := some ((List.replicate v4.toNat false).map cB) })] [0, 3, 7, 8, 10, 11, 12] [] [(0, .d (.sl 1 (a0.map (cI .i64)))), (3, .box [.d (.v (.int .i64 v4))]), (7, .box [.d (.sl 1 (y7.1.f0.map (cI .i64))), .d (.sl 1 (y7.1.f1.map (cI .i64))), .d (.sl 1 (y7.1.f2.map (cI .i64)))]), (8, .d (.v (.int .i64 y7.2))), (10, .own 1 (y1.map cB)), (11, .box [.own 1 ([].map (cI .i64)), .own 1 ([].map (cI .i64)), .own 1 ([].map (cI .i64))]), (12, .own 1 ((List.replicate v4.toNat false).map cB))] [(1, (0 ≤ v4 ∧ v4 ≤ v4 ∧ v4 ≤ 9223372036854775807 ∧ ((1 : Nat) : Int) * v4 ≤ 281474976710656) ∧ List.replicate v4.toNat (cB false) = ((List.replicate v4.toNat false).map cB))] 1 (by kernel_rfl) (⟨hp1, repl_ok cB rfl⟩) ?_
        refine T_seqk ?_
        refine T_region [(1, { rw := some (.d (.v (.int .i64 (y1.length : Int)))) })] [0, 3, 7, 8, 10, 11, 12, 93, 94, 95] [] [(0, .d (.sl 1 (a0.map (cI .i64)))), (3, .box [.d (.v (.int .i64 v4))]), (7, .box [.d (.sl 1 (y7.1.f0.map (cI .i64))), .d (.sl 1 (y7.1.f1.map (cI .i64))), .d (.sl 1 (y7.1.f2.map (cI .i64)))]), (8, .d (.v (.int .i64 y7.2))), (10, .own 1 (y1.map cB)), (11, .box [.own 1 ([].map (cI .i64)), .own 1 ([].map (cI .i64)), .own 1 ([].map (cI .i64))]), (12, .own 1 ((List.replicate v4.toNat false).map cB)), (93, .vw (10, 0)), (94, .d (.v (.int .i64 (y1.length : Int)))), (95, .d (.v (.int .i64 (0 : Int))))] [(1, True ∧ AV.d (.v (.int .i64 ((y1.map cB).length : Int))) = .d (.v (.int .i64 (y1.length : Int))))] 1 (by kernel_rfl) (len_ok cB) ?_
        refine T_joinct h (fun (p : (List Bool)) => [(0, .d (.sl 1 (a0.map (cI .i64)))), (3, .box [.d (.v (.int .i64 v4))]), (7, .box [.d (.sl 1 (y7.1.f0.map (cI .i64))), .d (.sl 1 (y7.1.f1.map (cI .i64))), .d (.sl 1 (y7.1.f2.map (cI .i64)))]), (8, .d (.v (.int .i64 y7.2))), (10, .own 1 (y1.map cB)), (11, .box [.own 1 ([].map (cI .i64)), .own 1 ([].map (cI .i64)), .own 1 ([].map (cI .i64))]), (12, .own 1 (p.map cB))]) (fun s h => ?_) (fun v8 h => ?_)
        · refine T_co [.keep [0, 3, 7, 8, 10, 11, 12, 93, 94, 95]] ((fun (p : (List Bool) × Int) => [(0, .d (.sl 1 (a0.map (cI .i64)))), (3, .box [.d (.v (.int .i64 v4))]), (7, .box [.d (.sl 1 (y7.1.f0.map (cI .i64))), .d (.sl 1 (y7.1.f1.map (cI .i64))), .d (.sl 1 (y7.1.f2.map (cI .i64)))]), (8, .d (.v (.int .i64 y7.2))), (10, .own 1 (y1.map cB)), (11, .box [.own 1 ([].map (cI .i64)), .own 1 ([].map (cI .i64)), .own 1 ([].map (cI .i64))]), (12, .own 1 (p.1.map cB)), (93, .vw (10, 0)), (94, .d (.v (.int .i64 (y1.length : Int)))), (95, .d (.v (.int .i64 p.2)))]) ((List.replicate v4.toNat false), (0 : Int))) (by show _ = _; kernel_rfl) ?_
          refine T_block ?_
          refine T_loopF (ι := (List Bool) × Int) (fun (p : (List Bool) × Int) => [(0, .d (.sl 1 (a0.map (cI .i64)))), (3, .box [.d (.v (.int .i64 v4))]), (7, .box [.d (.sl 1 (y7.1.f0.map (cI .i64))), .d (.sl 1 (y7.1.f1.map (cI .i64))), .d (.sl 1 (y7.1.f2.map (cI .i64)))]), (8, .d (.v (.int .i64 y7.2))), (10, .own 1 (y1.map cB)), (11, .box [.own 1 ([].map (cI .i64)), .own 1 ([].map (cI .i64)), .own 1 ([].map (cI .i64))]), (12, .own 1 (p.1.map cB)), (93, .vw (10, 0)), (94, .d (.v (.int .i64 (y1.length : Int)))), (95, .d (.v (.int .i64 p.2)))]) (fun n p => f5_L1 F a0 y1 n p.1 p.2 = some s) (fun i hh => by simp [f5_L1] at hh) (fun n p h => ?_) F ((List.replicate v4.toNat false), (0 : Int)) h
          obtain ⟨v1, v2⟩ := p
          have h : f5_L1 F a0 y1 (n + 1) v1 v2 = some s := h
          rw [f5_L1] at h
          refine T_region [] [0, 3, 7, 8, 10, 11, 12, 93, 94, 95, 96] [] [(0, .d (.sl 1 (a0.map (cI .i64)))), (3, .box [.d (.v (.int .i64 v4))]), (7, .box [.d (.sl 1 (y7.1.f0.map (cI .i64))), .d (.sl 1 (y7.1.f1.map (cI .i64))), .d (.sl 1 (y7.1.f2.map (cI .i64)))]), (8, .d (.v (.int .i64 y7.2))), (10, .own 1 (y1.map cB)), (11, .box [.own 1 ([].map (cI .i64)), .own 1 ([].map (cI .i64)), .own 1 ([].map (cI .i64))]), (12, .own 1 (v1.map cB)), (93, .vw (10, 0)), (94, .d (.v (.int .i64 (y1.length : Int)))), (95, .d (.v (.int .i64 v2))), (96, .d (.v (.bool (decide (v2 < (y1.length : Int))))))] [] 1 (by kernel_rfl) (trivial) ?_
          refine T_seqk ?_
          refine T_cond (decide (v2 < (y1.length : Int))) (by kernel_rfl) (fun hc => ?_) (fun hc => ?_)
          · have h := cond_tt hc h
            refine T_skip fun a w hm => then_norm (((?_ : T Try.prog e 182 _ _ _) a w hm))
            refine T_joinc h (fun (p : (List Bool)) => [(0, .d (.sl 1 (a0.map (cI .i64)))), (3, .box [.d (.v (.int .i64 v4))]), (7, .box [.d (.sl 1 (y7.1.f0.map (cI .i64))), .d (.sl 1 (y7.1.f1.map (cI .i64))), .d (.sl 1 (y7.1.f2.map (cI .i64)))]), (8, .d (.v (.int .i64 y7.2))), (10, .own 1 (y1.map cB)), (11, .box [.own 1 ([].map (cI .i64)), .own 1 ([].map (cI .i64)), .own 1 ([].map (cI .i64))]), (12, .own 1 (p.map cB)), (93, .vw (10, 0)), (94, .d (.v (.int .i64 (y1.length : Int)))), (95, .d (.v (.int .i64 v2)))]) (fun s h => ?_) (fun v3 h => ?_)
            · refine T_block ?_
              obtain ⟨hp2, h⟩ := chk_ok h
              refine T_region [(2, { cs := cB (y1.getD v2.toNat false) })] [0, 3, 7, 8, 10, 11, 12, 13, 14, 93, 94, 95] [] [(0, .d (.sl 1 (a0.map (cI .i64)))), (3, .box [.d (.v (.int .i64 v4))]), (7, .box [.d (.sl 1 (y7.1.f0.map (cI .i64))), .d (.sl 1 (y7.1.f1.map (cI .i64))), .d (.sl 1 (y7.1.f2.map (cI .i64)))]), (8, .d (.v (.int .i64 y7.2))), (10, .own 1 (y1.map cB)), (11, .box [.own 1 ([].map (cI .i64)), .own 1 ([].map (cI .i64)), .own 1 ([].map (cI .i64))]), (12, .own 1 (v1.map cB)), (13, .d (.v (.int .i64 v2))), (14, .d (.v (.bool (y1.getD v2.toNat false)))), (93, .vw (10, 0)), (94, .d (.v (.int .i64 (y1.length : Int)))), (95, .d (.v (.int .i64 v2)))] [(1, 0 ≤ v2 ∧ v2 < (y1.map cB).length), (0, (y1.map cB)[v2.toNat]? = some (cB (y1.getD v2.toNat false)))] 2 (by kernel_rfl) (⟨own_idx cB hp2, (idx_ok (d := false) cB hp2).2⟩) ?_
              refine T_region [] [0, 3, 7, 8, 10, 11, 12, 13, 93, 94, 95, 100] [] [(0, .d (.sl 1 (a0.map (cI .i64)))), (3, .box [.d (.v (.int .i64 v4))]), (7, .box [.d (.sl 1 (y7.1.f0.map (cI .i64))), .d (.sl 1 (y7.1.f1.map (cI .i64))), .d (.sl 1 (y7.1.f2.map (cI .i64)))]), (8, .d (.v (.int .i64 y7.2))), (10, .own 1 (y1.map cB)), (11, .box [.own 1 ([].map (cI .i64)), .own 1 ([].map (cI .i64)), .own 1 ([].map (cI .i64))]), (12, .own 1 (v1.map cB)), (13, .d (.v (.int .i64 v2))), (93, .vw (10, 0)), (94, .d (.v (.int .i64 (y1.length : Int)))), (95, .d (.v (.int .i64 v2))), (100, .d (.v (.bool (y1.getD v2.toNat false))))] [] 1 (by kernel_rfl) (trivial) ?_
              refine T_cond (y1.getD v2.toNat false) (by kernel_rfl) (fun hc => ?_) (fun hc => ?_)
              · have h := cond_tt hc h
                obtain ⟨hp3, h⟩ := chk_ok h
                obtain ⟨hp4, h⟩ := chk_ok h
                obtain hs := Option.some.inj h; subst hs
                refine T_region_end [(3, { cs := (cI .i64) (a0.getD v2.toNat 0) }), (6, { cs := cB (v1.getD (a0.getD v2.toNat 0).toNat false), es := some ((v1.set (a0.getD v2.toNat 0).toNat true).map cB) })] [0, 3, 7, 8, 10, 11, 12, 93, 94, 95] [] [(0, .d (.sl 1 (a0.map (cI .i64)))), (3, .box [.d (.v (.int .i64 v4))]), (7, .box [.d (.sl 1 (y7.1.f0.map (cI .i64))), .d (.sl 1 (y7.1.f1.map (cI .i64))), .d (.sl 1 (y7.1.f2.map (cI .i64)))]), (8, .d (.v (.int .i64 y7.2))), (10, .own 1 (y1.map cB)), (11, .box [.own 1 ([].map (cI .i64)), .own 1 ([].map (cI .i64)), .own 1 ([].map (cI .i64))]), (12, .own 1 ((v1.set (a0.getD v2.toNat 0).toNat true).map cB)), (93, .vw (10, 0)), (94, .d (.v (.int .i64 (y1.length : Int)))), (95, .d (.v (.int .i64 v2)))] [(3, 0 ≤ v2 ∧ (a0.map (cI .i64))[v2.toNat]? = some ((cI .i64) (a0.getD v2.toNat 0))), (1, 0 ≤ (a0.getD v2.toNat 0) ∧ (a0.getD v2.toNat 0) < (v1.map cB).length), (0, (v1.map cB)[(a0.getD v2.toNat 0).toNat]? = some (cB (v1.getD (a0.getD v2.toNat 0).toNat false)) ∧ (v1.map cB).set (a0.getD v2.toNat 0).toNat (cB true) = ((v1.set (a0.getD v2.toNat 0).toNat true).map cB))] 0 (by kernel_rfl) (⟨idx_ok (d := 0) (cI .i64) hp3, own_idx cB hp4, ⟨(idx_ok (d := false) cB hp4).2, set_ok cB rfl⟩⟩) fun a w hm => inBlock_norm (then_norm (hm.co (cs := [.keep [0, 3, 7, 8, 10, 11, 12, 93, 94, 95]]) (by show _ = _; kernel_rfl)))
              · have h := cond_ff hc h
                obtain hs := Option.some.inj h; subst hs
                refine T_skip fun a w hm => inBlock_norm (then_norm (hm.co (cs := [.keep [0, 3, 7, 8, 10, 11, 12, 93, 94, 95]]) (by show _ = _; kernel_rfl)))
            · skip
              refine T_region_end [] [0, 3, 7, 8, 10, 11, 12, 93, 94, 95] [] [(0, .d (.sl 1 (a0.map (cI .i64)))), (3, .box [.d (.v (.int .i64 v4))]), (7, .box [.d (.sl 1 (y7.1.f0.map (cI .i64))), .d (.sl 1 (y7.1.f1.map (cI .i64))), .d (.sl 1 (y7.1.f2.map (cI .i64)))]), (8, .d (.v (.int .i64 y7.2))), (10, .own 1 (y1.map cB)), (11, .box [.own 1 ([].map (cI .i64)), .own 1 ([].map (cI .i64)), .own 1 ([].map (cI .i64))]), (12, .own 1 (v3.map cB)), (93, .vw (10, 0)), (94, .d (.v (.int .i64 (y1.length : Int)))), (95, .d (.v (.int .i64 (IntKind.i64.wrap (v2 + (1 : Int))))))] [] 2 (by kernel_rfl) (trivial) fun a w hm => then_norm (⟨(v3, IntKind.i64.wrap (v2 + (1 : Int))), h, hm.co (cs := [.keep [0, 3, 7, 8, 10, 11, 12, 93, 94, 95]]) (by show _ = _; kernel_rfl)⟩)
          · have h := cond_ff hc h
            obtain hs := Option.some.inj h; subst hs
            refine T_exit fun a w hm => then_exit (then_exit (inBlock_exit (then_norm (hm.co (cs := [.keep [0, 3, 7, 8, 10, 11, 12]]) (by show _ = _; kernel_rfl)))))
        · skip
          refine fun a w hm => then_norm (((?_ : T Try.prog e 182 _ _ _) a w hm))
          refine T_seqk ?_
          refine T_region [] [0, 7, 8, 10, 11, 12, 108, 109] [] [(0, .d (.sl 1 (a0.map (cI .i64)))), (7, .box [.d (.sl 1 (y7.1.f0.map (cI .i64))), .d (.sl 1 (y7.1.f1.map (cI .i64))), .d (.sl 1 (y7.1.f2.map (cI .i64)))]), (8, .d (.v (.int .i64 y7.2))), (10, .own 1 (y1.map cB)), (11, .box [.own 1 ([].map (cI .i64)), .own 1 ([].map (cI .i64)), .own 1 ([].map (cI .i64))]), (12, .own 1 (v8.map cB)), (108, .d (.v (.int .i64 v4))), (109, .d (.v (.int .i64 (0 : Int))))] [] 2 (by kernel_rfl) (trivial) ?_
          refine T_joinct h (fun (p : (List Int)) => [(0, .d (.sl 1 (a0.map (cI .i64)))), (7, .box [.d (.sl 1 (y7.1.f0.map (cI .i64))), .d (.sl 1 (y7.1.f1.map (cI .i64))), .d (.sl 1 (y7.1.f2.map (cI .i64)))]), (8, .d (.v (.int .i64 y7.2))), (10, .own 1 (y1.map cB)), (11, .box [.own 1 (p.map (cI .i64)), .own 1 ([].map (cI .i64)), .own 1 ([].map (cI .i64))]), (12, .own 1 (v8.map cB))]) (fun s h => ?_) (fun v15 h => ?_)
          · refine T_co [.keep [0, 7, 8, 10, 11, 12, 108, 109]] ((fun (p : (List Int) × Int) => [(0, .d (.sl 1 (a0.map (cI .i64)))), (7, .box [.d (.sl 1 (y7.1.f0.map (cI .i64))), .d (.sl 1 (y7.1.f1.map (cI .i64))), .d (.sl 1 (y7.1.f2.map (cI .i64)))]), (8, .d (.v (.int .i64 y7.2))), (10, .own 1 (y1.map cB)), (11, .box [.own 1 (p.1.map (cI .i64)), .own 1 ([].map (cI .i64)), .own 1 ([].map (cI .i64))]), (12, .own 1 (v8.map cB)), (108, .d (.v (.int .i64 v4))), (109, .d (.v (.int .i64 p.2)))]) ([], (0 : Int))) (by show _ = _; kernel_rfl) ?_
            refine T_block ?_
            refine T_loopF (ι := (List Int) × Int) (fun (p : (List Int) × Int) => [(0, .d (.sl 1 (a0.map (cI .i64)))), (7, .box [.d (.sl 1 (y7.1.f0.map (cI .i64))), .d (.sl 1 (y7.1.f1.map (cI .i64))), .d (.sl 1 (y7.1.f2.map (cI .i64)))]), (8, .d (.v (.int .i64 y7.2))), (10, .own 1 (y1.map cB)), (11, .box [.own 1 (p.1.map (cI .i64)), .own 1 ([].map (cI .i64)), .own 1 ([].map (cI .i64))]), (12, .own 1 (v8.map cB)), (108, .d (.v (.int .i64 v4))), (109, .d (.v (.int .i64 p.2)))]) (fun n p => f5_L3 F a0 v4 n p.1 p.2 = some s) (fun i hh => by simp [f5_L3] at hh) (fun n p h => ?_) F ([], (0 : Int)) h
            obtain ⟨v5, v6⟩ := p
            have h : f5_L3 F a0 v4 (n + 1) v5 v6 = some s := h
            rw [f5_L3] at h
            refine T_region [] [0, 7, 8, 10, 11, 12, 108, 109, 110] [] [(0, .d (.sl 1 (a0.map (cI .i64)))), (7, .box [.d (.sl 1 (y7.1.f0.map (cI .i64))), .d (.sl 1 (y7.1.f1.map (cI .i64))), .d (.sl 1 (y7.1.f2.map (cI .i64)))]), (8, .d (.v (.int .i64 y7.2))), (10, .own 1 (y1.map cB)), (11, .box [.own 1 (v5.map (cI .i64)), .own 1 ([].map (cI .i64)), .own 1 ([].map (cI .i64))]), (12, .own 1 (v8.map cB)), (108, .d (.v (.int .i64 v4))), (109, .d (.v (.int .i64 v6))), (110, .d (.v (.bool (decide (v6 < v4)))))] [] 1 (by kernel_rfl) (trivial) ?_
            refine T_seqk ?_
            refine T_cond (decide (v6 < v4)) (by kernel_rfl) (fun hc => ?_) (fun hc => ?_)
            · have h := cond_tt hc h
              refine T_skip fun a w hm => then_norm (((?_ : T Try.prog e 182 _ _ _) a w hm))
              refine T_joinc h (fun (p : (List Int)) => [(0, .d (.sl 1 (a0.map (cI .i64)))), (7, .box [.d (.sl 1 (y7.1.f0.map (cI .i64))), .d (.sl 1 (y7.1.f1.map (cI .i64))), .d (.sl 1 (y7.1.f2.map (cI .i64)))]), (8, .d (.v (.int .i64 y7.2))), (10, .own 1 (y1.map cB)), (11, .box [.own 1 (p.map (cI .i64)), .own 1 ([].map (cI .i64)), .own 1 ([].map (cI .i64))]), (12, .own 1 (v8.map cB)), (108, .d (.v (.int .i64 v4))), (109, .d (.v (.int .i64 v6)))]) (fun s h => ?_) (fun v7 h => ?_)
              · refine T_block ?_
                refine T_region [] [0, 7, 8, 10, 11, 12, 15, 108, 109] [] [(0, .d (.sl 1 (a0.map (cI .i64)))), (7, .box [.d (.sl 1 (y7.1.f0.map (cI .i64))), .d (.sl 1 (y7.1.f1.map (cI .i64))), .d (.sl 1 (y7.1.f2.map (cI .i64)))]), (8, .d (.v (.int .i64 y7.2))), (10, .own 1 (y1.map cB)), (11, .box [.own 1 (v5.map (cI .i64)), .own 1 ([].map (cI .i64)), .own 1 ([].map (cI .i64))]), (12, .own 1 (v8.map cB)), (15, .d (.v (.int .i64 v6))), (108, .d (.v (.int .i64 v4))), (109, .d (.v (.int .i64 v6)))] [] 2 (by kernel_rfl) (trivial) ?_
                obtain ⟨y2, hy8, h⟩ := call_ok h
                refine T_region [(2, { res := .d (.v (.bool y2)) })] [0, 7, 8, 10, 11, 12, 15, 108, 109, 115] [] [(0, .d (.sl 1 (a0.map (cI .i64)))), (7, .box [.d (.sl 1 (y7.1.f0.map (cI .i64))), .d (.sl 1 (y7.1.f1.map (cI .i64))), .d (.sl 1 (y7.1.f2.map (cI .i64)))]), (8, .d (.v (.int .i64 y7.2))), (10, .own 1 (y1.map cB)), (11, .box [.own 1 (v5.map (cI .i64)), .own 1 ([].map (cI .i64)), .own 1 ([].map (cI .i64))]), (12, .own 1 (v8.map cB)), (15, .d (.v (.int .i64 v6))), (108, .d (.v (.int .i64 v4))), (109, .d (.v (.int .i64 v6))), (115, .d (.v (.bool (!y2))))] [(2, ACall Try.prog 16 [.d (.sl 1 (a0.map (cI .i64))), .d (.v (.int .i64 v6))] [] (.d (.v (.bool y2))) [])] 1 (by kernel_rfl) (f16_ok hy8) ?_
                refine T_cond (!y2) (by kernel_rfl) (fun hc => ?_) (fun hc => ?_)
                · have h := cond_tt hc h
                  obtain ⟨hp5, h⟩ := chk_ok h
                  obtain hs := Option.some.inj h; subst hs
                  refine T_region_end [(3, { es := some (([v6]).map (cI .i64)) }), (4, { es := some ((v5 ++ ([v6])).map (cI .i64)) })] [0, 7, 8, 10, 11, 12, 108, 109] [] [(0, .d (.sl 1 (a0.map (cI .i64)))), (7, .box [.d (.sl 1 (y7.1.f0.map (cI .i64))), .d (.sl 1 (y7.1.f1.map (cI .i64))), .d (.sl 1 (y7.1.f2.map (cI .i64)))]), (8, .d (.v (.int .i64 y7.2))), (10, .own 1 (y1.map cB)), (11, .box [.own 1 ((v5 ++ ([v6])).map (cI .i64)), .own 1 ([].map (cI .i64)), .own 1 ([].map (cI .i64))]), (12, .own 1 (v8.map cB)), (108, .d (.v (.int .i64 v4))), (109, .d (.v (.int .i64 v6)))] [(3, (([v6]).map (cI .i64)) = (([v6]).map (cI .i64))), (0, (v5.map (cI .i64)).length + (([v6]).map (cI .i64)).length ≤ 4294967296 ∧ (v5.map (cI .i64)) ++ (([v6]).map (cI .i64)) = ((v5 ++ ([v6])).map (cI .i64)))] 2 (by kernel_rfl) (⟨rfl, app_ok (cI .i64) hp5⟩) fun a w hm => inBlock_norm (then_norm (hm.co (cs := [.keep [0, 7, 8, 10, 11, 12, 108, 109]]) (by show _ = _; kernel_rfl)))
                · have h := cond_ff hc h
                  obtain hs := Option.some.inj h; subst hs
                  refine T_skip fun a w hm => inBlock_norm (then_norm (hm.co (cs := [.keep [0, 7, 8, 10, 11, 12, 108, 109]]) (by show _ = _; kernel_rfl)))
              · skip
                refine T_region_end [] [0, 7, 8, 10, 11, 12, 108, 109] [] [(0, .d (.sl 1 (a0.map (cI .i64)))), (7, .box [.d (.sl 1 (y7.1.f0.map (cI .i64))), .d (.sl 1 (y7.1.f1.map (cI .i64))), .d (.sl 1 (y7.1.f2.map (cI .i64)))]), (8, .d (.v (.int .i64 y7.2))), (10, .own 1 (y1.map cB)), (11, .box [.own 1 (v7.map (cI .i64)), .own 1 ([].map (cI .i64)), .own 1 ([].map (cI .i64))]), (12, .own 1 (v8.map cB)), (108, .d (.v (.int .i64 v4))), (109, .d (.v (.int .i64 (IntKind.i64.wrap (v6 + (1 : Int))))))] [] 2 (by kernel_rfl) (trivial) fun a w hm => then_norm (⟨(v7, IntKind.i64.wrap (v6 + (1 : Int))), h, hm.co (cs := [.keep [0, 7, 8, 10, 11, 12, 108, 109]]) (by show _ = _; kernel_rfl)⟩)
            · have h := cond_ff hc h
              obtain hs := Option.some.inj h; subst hs
              refine T_exit fun a w hm => then_exit (then_exit (inBlock_exit (then_norm (hm.co (cs := [.keep [0, 7, 8, 10, 11, 12]]) (by show _ = _; kernel_rfl)))))
          · skip
            refine fun a w hm => then_norm (((?_ : T Try.prog e 182 _ _ _) a w hm))
            refine T_seqk ?_
            refine T_region [(1, { rw := some (.d (.v (.int .i64 (a0.length : Int)))) })] [7, 8, 10, 11, 12, 123, 124, 125] [] [(7, .box [.d (.sl 1 (y7.1.f0.map (cI .i64))), .d (.sl 1 (y7.1.f1.map (cI .i64))), .d (.sl 1 (y7.1.f2.map (cI .i64)))]), (8, .d (.v (.int .i64 y7.2))), (10, .own 1 (y1.map cB)), (11, .box [.own 1 (v15.map (cI .i64)), .own 1 ([].map (cI .i64)), .own 1 ([].map (cI .i64))]), (12, .own 1 (v8.map cB)), (123, .d (.sl 1 (a0.map (cI .i64)))), (124, .d (.v (.int .i64 (a0.length : Int)))), (125, .d (.v (.int .i64 (0 : Int))))] [(1, True ∧ AV.d (.v (.int .i64 ((a0.map (cI .i64)).length : Int))) = .d (.v (.int .i64 (a0.length : Int))))] 1 (by kernel_rfl) (len_ok (cI .i64)) ?_
            refine T_joinct h (fun (p : (List Int) × (List Int)) => [(7, .box [.d (.sl 1 (y7.1.f0.map (cI .i64))), .d (.sl 1 (y7.1.f1.map (cI .i64))), .d (.sl 1 (y7.1.f2.map (cI .i64)))]), (8, .d (.v (.int .i64 y7.2))), (11, .box [.own 1 (v15.map (cI .i64)), .own 1 (p.1.map (cI .i64)), .own 1 (p.2.map (cI .i64))])]) (fun s h => ?_) (fun s h => ?_)
            · refine T_co [.keep [7, 8, 10, 11, 12, 123, 124, 125]] ((fun (p : (List Int) × (List Int) × Int) => [(7, .box [.d (.sl 1 (y7.1.f0.map (cI .i64))), .d (.sl 1 (y7.1.f1.map (cI .i64))), .d (.sl 1 (y7.1.f2.map (cI .i64)))]), (8, .d (.v (.int .i64 y7.2))), (10, .own 1 (y1.map cB)), (11, .box [.own 1 (v15.map (cI .i64)), .own 1 (p.1.map (cI .i64)), .own 1 (p.2.1.map (cI .i64))]), (12, .own 1 (v8.map cB)), (123, .d (.sl 1 (a0.map (cI .i64)))), (124, .d (.v (.int .i64 (a0.length : Int)))), (125, .d (.v (.int .i64 p.2.2)))]) ([], [], (0 : Int))) (by show _ = _; kernel_rfl) ?_
              refine T_block ?_
              refine T_loopF (ι := (List Int) × (List Int) × Int) (fun (p : (List Int) × (List Int) × Int) => [(7, .box [.d (.sl 1 (y7.1.f0.map (cI .i64))), .d (.sl 1 (y7.1.f1.map (cI .i64))), .d (.sl 1 (y7.1.f2.map (cI .i64)))]), (8, .d (.v (.int .i64 y7.2))), (10, .own 1 (y1.map cB)), (11, .box [.own 1 (v15.map (cI .i64)), .own 1 (p.1.map (cI .i64)), .own 1 (p.2.1.map (cI .i64))]), (12, .own 1 (v8.map cB)), (123, .d (.sl 1 (a0.map (cI .i64)))), (124, .d (.v (.int .i64 (a0.length : Int)))), (125, .d (.v (.int .i64 p.2.2)))]) (fun n p => f5_L5 F a0 y1 v8 n p.1 p.2.1 p.2.2 = some s) (fun i hh => by simp [f5_L5] at hh) (fun n p h => ?_) F ([], [], (0 : Int)) h
              obtain ⟨v9, v10, v11⟩ := p
              have h : f5_L5 F a0 y1 v8 (n + 1) v9 v10 v11 = some s := h
              rw [f5_L5] at h
              refine T_region [] [7, 8, 10, 11, 12, 123, 124, 125, 126] [] [(7, .box [.d (.sl 1 (y7.1.f0.map (cI .i64))), .d (.sl 1 (y7.1.f1.map (cI .i64))), .d (.sl 1 (y7.1.f2.map (cI .i64)))]), (8, .d (.v (.int .i64 y7.2))), (10, .own 1 (y1.map cB)), (11, .box [.own 1 (v15.map (cI .i64)), .own 1 (v9.map (cI .i64)), .own 1 (v10.map (cI .i64))]), (12, .own 1 (v8.map cB)), (123, .d (.sl 1 (a0.map (cI .i64)))), (124, .d (.v (.int .i64 (a0.length : Int)))), (125, .d (.v (.int .i64 v11))), (126, .d (.v (.bool (decide (v11 < (a0.length : Int))))))] [] 1 (by kernel_rfl) (trivial) ?_
              refine T_seqk ?_
              refine T_cond (decide (v11 < (a0.length : Int))) (by kernel_rfl) (fun hc => ?_) (fun hc => ?_)
              · have h := cond_tt hc h
                refine T_skip fun a w hm => then_norm (((?_ : T Try.prog e 182 _ _ _) a w hm))
                refine T_joinc h (fun (p : (List Int) × (List Int)) => [(7, .box [.d (.sl 1 (y7.1.f0.map (cI .i64))), .d (.sl 1 (y7.1.f1.map (cI .i64))), .d (.sl 1 (y7.1.f2.map (cI .i64)))]), (8, .d (.v (.int .i64 y7.2))), (10, .own 1 (y1.map cB)), (11, .box [.own 1 (v15.map (cI .i64)), .own 1 (p.1.map (cI .i64)), .own 1 (p.2.map (cI .i64))]), (12, .own 1 (v8.map cB)), (123, .d (.sl 1 (a0.map (cI .i64)))), (124, .d (.v (.int .i64 (a0.length : Int)))), (125, .d (.v (.int .i64 v11)))]) (fun s h => ?_) (fun s h => ?_)
                · refine T_block ?_
                  obtain ⟨hp6, h⟩ := chk_ok h
                  refine T_region [(1, { cs := (cI .i64) (a0.getD v11.toNat 0) })] [7, 8, 10, 11, 12, 16, 17, 123, 124, 125] [] [(7, .box [.d (.sl 1 (y7.1.f0.map (cI .i64))), .d (.sl 1 (y7.1.f1.map (cI .i64))), .d (.sl 1 (y7.1.f2.map (cI .i64)))]), (8, .d (.v (.int .i64 y7.2))), (10, .own 1 (y1.map cB)), (11, .box [.own 1 (v15.map (cI .i64)), .own 1 (v9.map (cI .i64)), .own 1 (v10.map (cI .i64))]), (12, .own 1 (v8.map cB)), (16, .d (.v (.int .i64 v11))), (17, .d (.v (.int .i64 (a0.getD v11.toNat 0)))), (123, .d (.sl 1 (a0.map (cI .i64)))), (124, .d (.v (.int .i64 (a0.length : Int)))), (125, .d (.v (.int .i64 v11)))] [(1, 0 ≤ v11 ∧ (a0.map (cI .i64))[v11.toNat]? = some ((cI .i64) (a0.getD v11.toNat 0)))] 3 (by kernel_rfl) (idx_ok (d := 0) (cI .i64) hp6) ?_
                  obtain ⟨hp7, h⟩ := chk_ok h
                  obtain ⟨hp8, h⟩ := chk_ok h
                  refine T_region [(3, { cs := cB (y1.getD v11.toNat false) }), (9, { cs := cB (v8.getD (a0.getD v11.toNat 0).toNat false) })] [7, 8, 10, 11, 12, 16, 123, 124, 125, 140] [] [(7, .box [.d (.sl 1 (y7.1.f0.map (cI .i64))), .d (.sl 1 (y7.1.f1.map (cI .i64))), .d (.sl 1 (y7.1.f2.map (cI .i64)))]), (8, .d (.v (.int .i64 y7.2))), (10, .own 1 (y1.map cB)), (11, .box [.own 1 (v15.map (cI .i64)), .own 1 (v9.map (cI .i64)), .own 1 (v10.map (cI .i64))]), (12, .own 1 (v8.map cB)), (16, .d (.v (.int .i64 v11))), (123, .d (.sl 1 (a0.map (cI .i64)))), (124, .d (.v (.int .i64 (a0.length : Int)))), (125, .d (.v (.int .i64 v11))), (140, .d (.v (.bool (bif (!(y1.getD v11.toNat false)) then (v8.getD (a0.getD v11.toNat 0).toNat false) else false))))] [(2, 0 ≤ v11 ∧ v11 < (y1.map cB).length), (0, (y1.map cB)[v11.toNat]? = some (cB (y1.getD v11.toNat false))), (2, ((((!(y1.getD v11.toNat false)) == true) && true) = true → True)), (0, ((((!(y1.getD v11.toNat false)) == true) && true) = true → True)), (0, ((((!(y1.getD v11.toNat false)) == true) && true) = true → 0 ≤ (a0.getD v11.toNat 0) ∧ (a0.getD v11.toNat 0) < (v8.map cB).length)), (0, ((((!(y1.getD v11.toNat false)) == true) && true) = true → (v8.map cB)[(a0.getD v11.toNat 0).toNat]? = some (cB (v8.getD (a0.getD v11.toNat 0).toNat false))))] 1 (by kernel_rfl) (⟨own_idx cB hp7, (idx_ok (d := false) cB hp7).2, (fun hg => trivial), (fun hg => trivial), (fun hg => own_idx cB (hp8 hg)), (fun hg => (idx_ok (d := false) cB (hp8 hg)).2)⟩) ?_
                  refine T_cond (bif (!(y1.getD v11.toNat false)) then (v8.getD (a0.getD v11.toNat 0).toNat false) else false) (by kernel_rfl) (fun hc => ?_) (fun hc => ?_)
                  · have h := cond_tt hc h
                    obtain ⟨hp9, h⟩ := chk_ok h
                    obtain hs := Option.some.inj h; subst hs
                    refine T_region_end [(3, { es := some (([v11]).map (cI .i64)) }), (4, { es := some ((v9 ++ ([v11])).map (cI .i64)) })] [7, 8, 10, 11, 12, 123, 124, 125] [] [(7, .box [.d (.sl 1 (y7.1.f0.map (cI .i64))), .d (.sl 1 (y7.1.f1.map (cI .i64))), .d (.sl 1 (y7.1.f2.map (cI .i64)))]), (8, .d (.v (.int .i64 y7.2))), (10, .own 1 (y1.map cB)), (11, .box [.own 1 (v15.map (cI .i64)), .own 1 ((v9 ++ ([v11])).map (cI .i64)), .own 1 (v10.map (cI .i64))]), (12, .own 1 (v8.map cB)), (123, .d (.sl 1 (a0.map (cI .i64)))), (124, .d (.v (.int .i64 (a0.length : Int)))), (125, .d (.v (.int .i64 v11)))] [(3, (([v11]).map (cI .i64)) = (([v11]).map (cI .i64))), (0, (v9.map (cI .i64)).length + (([v11]).map (cI .i64)).length ≤ 4294967296 ∧ (v9.map (cI .i64)) ++ (([v11]).map (cI .i64)) = ((v9 ++ ([v11])).map (cI .i64)))] 2 (by kernel_rfl) (⟨rfl, app_ok (cI .i64) hp9⟩) fun a w hm => inBlock_norm (then_norm (hm.co (cs := [.keep [7, 8, 10, 11, 12, 123, 124, 125]]) (by show _ = _; kernel_rfl)))
                  · have h := cond_ff hc h
                    obtain ⟨hp10, h⟩ := chk_ok h
                    refine T_region [(3, { cs := cB (y1.getD v11.toNat false) })] [7, 8, 10, 11, 12, 16, 123, 124, 125, 151] [] [(7, .box [.d (.sl 1 (y7.1.f0.map (cI .i64))), .d (.sl 1 (y7.1.f1.map (cI .i64))), .d (.sl 1 (y7.1.f2.map (cI .i64)))]), (8, .d (.v (.int .i64 y7.2))), (10, .own 1 (y1.map cB)), (11, .box [.own 1 (v15.map (cI .i64)), .own 1 (v9.map (cI .i64)), .own 1 (v10.map (cI .i64))]), (12, .own 1 (v8.map cB)), (16, .d (.v (.int .i64 v11))), (123, .d (.sl 1 (a0.map (cI .i64)))), (124, .d (.v (.int .i64 (a0.length : Int)))), (125, .d (.v (.int .i64 v11))), (151, .d (.v (.bool (!(y1.getD v11.toNat false)))))] [(2, 0 ≤ v11 ∧ v11 < (y1.map cB).length), (0, (y1.map cB)[v11.toNat]? = some (cB (y1.getD v11.toNat false)))] 1 (by kernel_rfl) (⟨own_idx cB hp10, (idx_ok (d := false) cB hp10).2⟩) ?_
                    refine T_cond (!(y1.getD v11.toNat false)) (by kernel_rfl) (fun hc => ?_) (fun hc => ?_)
                    · have h := cond_tt hc h
                      obtain ⟨hp11, h⟩ := chk_ok h
                      obtain hs := Option.some.inj h; subst hs
                      refine T_region_end [(3, { es := some (([v11]).map (cI .i64)) }), (4, { es := some ((v10 ++ ([v11])).map (cI .i64)) })] [7, 8, 10, 11, 12, 123, 124, 125] [] [(7, .box [.d (.sl 1 (y7.1.f0.map (cI .i64))), .d (.sl 1 (y7.1.f1.map (cI .i64))), .d (.sl 1 (y7.1.f2.map (cI .i64)))]), (8, .d (.v (.int .i64 y7.2))), (10, .own 1 (y1.map cB)), (11, .box [.own 1 (v15.map (cI .i64)), .own 1 (v9.map (cI .i64)), .own 1 ((v10 ++ ([v11])).map (cI .i64))]), (12, .own 1 (v8.map cB)), (123, .d (.sl 1 (a0.map (cI .i64)))), (124, .d (.v (.int .i64 (a0.length : Int)))), (125, .d (.v (.int .i64 v11)))] [(3, (([v11]).map (cI .i64)) = (([v11]).map (cI .i64))), (0, (v10.map (cI .i64)).length + (([v11]).map (cI .i64)).length ≤ 4294967296 ∧ (v10.map (cI .i64)) ++ (([v11]).map (cI .i64)) = ((v10 ++ ([v11])).map (cI .i64)))] 2 (by kernel_rfl) (⟨rfl, app_ok (cI .i64) hp11⟩) fun a w hm => inBlock_norm (then_norm (hm.co (cs := [.keep [7, 8, 10, 11, 12, 123, 124, 125]]) (by show _ = _; kernel_rfl)))
                    · have h := cond_ff hc h
                      obtain hs := Option.some.inj h; subst hs
                      refine T_skip fun a w hm => inBlock_norm (then_norm (hm.co (cs := [.keep [7, 8, 10, 11, 12, 123, 124, 125]]) (by show _ = _; kernel_rfl)))
                · obtain ⟨v12, v13⟩ := s
                  try dsimp only at h
                  refine T_region_end [] [7, 8, 10, 11, 12, 123, 124, 125] [] [(7, .box [.d (.sl 1 (y7.1.f0.map (cI .i64))), .d (.sl 1 (y7.1.f1.map (cI .i64))), .d (.sl 1 (y7.1.f2.map (cI .i64)))]), (8, .d (.v (.int .i64 y7.2))), (10, .own 1 (y1.map cB)), (11, .box [.own 1 (v15.map (cI .i64)), .own 1 (v12.map (cI .i64)), .own 1 (v13.map (cI .i64))]), (12, .own 1 (v8.map cB)), (123, .d (.sl 1 (a0.map (cI .i64)))), (124, .d (.v (.int .i64 (a0.length : Int)))), (125, .d (.v (.int .i64 (IntKind.i64.wrap (v11 + (1 : Int))))))] [] 2 (by kernel_rfl) (trivial) fun a w hm => then_norm (⟨(v12, v13, IntKind.i64.wrap (v11 + (1 : Int))), h, hm.co (cs := [.keep [7, 8, 10, 11, 12, 123, 124, 125]]) (by show _ = _; kernel_rfl)⟩)
              · have h := cond_ff hc h
                obtain hs := Option.some.inj h; subst hs
                refine T_exit fun a w hm => then_exit (then_exit (inBlock_exit (then_norm (hm.co (cs := [.keep [7, 8, 11]]) (by show _ = _; kernel_rfl)))))
            · obtain ⟨v16, v17⟩ := s
              try dsimp only at h
              refine fun a w hm => then_norm (((?_ : T Try.prog e 182 _ _ _) a w hm))
              obtain ⟨y9, hy9, h⟩ := call_ok h
              obtain ⟨y10, hy10, h⟩ := call_ok h
              obtain ⟨y11, hy11, h⟩ := call_ok h
              obtain ⟨z3, hz3, h⟩ := lett_ok h
              refine T_region [(7, { res := .d (.v (.bool y9)) }), (14, { res := .d (.v (.bool y10)) }), (21, { res := .d (.v (.bool y11)) }), (22, { rw := some (.d (.v (.bool z3))) })] [4] [] [(4, .d (.v (.bool z3)))] [(3, ((((y7.2 == (0 : Int)) == true) && true) = true → True)), (0, ((((y7.2 == (0 : Int)) == true) && true) = true → True)), (0, ((((y7.2 == (0 : Int)) == true) && true) = true → True)), (0, ((((y7.2 == (0 : Int)) == true) && true) = true → True)), (0, ((((y7.2 == (0 : Int)) == true) && true) = true → ACall Try.prog 11 [.d (.sl 1 (y7.1.f0.map (cI .i64))), .d (.sl 1 (v15.map (cI .i64)))] [] (.d (.v (.bool y9))) [])), (2, ((((bif (y7.2 == (0 : Int)) then y9 else false) == true) && true) = true → True)), (0, ((((bif (y7.2 == (0 : Int)) then y9 else false) == true) && true) = true → True)), (0, ((((bif (y7.2 == (0 : Int)) then y9 else false) == true) && true) = true → True)), (0, ((((bif (y7.2 == (0 : Int)) then y9 else false) == true) && true) = true → True)), (0, ((((bif (y7.2 == (0 : Int)) then y9 else false) == true) && true) = true → ACall Try.prog 11 [.d (.sl 1 (y7.1.f1.map (cI .i64))), .d (.sl 1 (v16.map (cI .i64)))] [] (.d (.v (.bool y10))) [])), (2, ((((bif (bif (y7.2 == (0 : Int)) then y9 else false) then y10 else false) == true) && true) = true → True)), (0, ((((bif (bif (y7.2 == (0 : Int)) then y9 else false) then y10 else false) == true) && true) = true → True)), (0, ((((bif (bif (y7.2 == (0 : Int)) then y9 else false) then y10 else false) == true) && true) = true → True)), (0, ((((bif (bif (y7.2 == (0 : Int)) then y9 else false) then y10 else false) == true) && true) = true → True)), (0, ((((bif (bif (y7.2 == (0 : Int)) then y9 else false) then y10 else false) == true) && true) = true → ACall Try.prog 11 [.d (.sl 1 (y7.1.f2.map (cI .i64))), .d (.sl 1 (v17.map (cI .i64)))] [] (.d (.v (.bool y11))) [])), (0, (True) ∧ AV.d (.v (.bool (bif (bif (bif (y7.2 == (0 : Int)) then y9 else false) then y10 else false) then y11 else false))) = .d (.v (.bool z3)))] 1 (by kernel_rfl) (⟨(fun hg => trivial), (fun hg => trivial), (fun hg => trivial), (fun hg => trivial), (fun hg => f11_ok (gcall_ok hg hy9)), (fun hg => trivial), (fun hg => trivial), (fun hg => trivial), (fun hg => trivial), (fun hg => f11_ok (gcall_ok hg hy10)), (fun hg => trivial), (fun hg => trivial), (fun hg => trivial), (fun hg => trivial), (fun hg => f11_ok (gcall_ok hg hy11)), ⟨trivial, (by subst hz3; rfl)⟩⟩) ?_
              obtain hs := Option.some.inj h; subst hs
              refine T_ret fun a w hm => T_return (fr' := [(4, .d (.v (.bool z3)))]) [4] (by kernel_rfl) [.keep [4]] (by kernel_rfl) (by kernel_rfl) (by kernel_rfl) (by show _ = _; kernel_rfl) (by exact trivial) a w hm

end Go.Vm.GenC5
