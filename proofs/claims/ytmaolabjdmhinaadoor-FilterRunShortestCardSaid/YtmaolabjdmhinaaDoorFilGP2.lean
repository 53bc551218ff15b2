import Derived.Test.YtmaolabjdmhinaaDoorFilGP
namespace Go.Vm.FilG
open Go.Proofs
set_option maxRecDepth 20000
theorem ref3_Check32_ok {F : Nat} {a0 : List UInt8} {r : Int} (h : ref3_Check32 F a0 = some r) : ACall Tryd.prog 20 [.d (.str a0)] [] (.d (.v (.int .u32 r))) [] := by
  rw [ref3_Check32] at h
  refine ACall.intro (N := 27) Tryd.func20 rfl rfl rfl rfl rfl fun e => ?_
  refine T_region [] [0] [] [(0, .d (.str a0))] [] 1 (by kernel_rfl) (trivial) ?_
  refine T_region [] [0, 3] [] [(0, .d (.str a0)), (3, .d (.v (.int .u32 (4294967295 : Int))))] [] 1 (by kernel_rfl) (trivial) ?_
  refine T_seqk ?_
  refine T_region [] [0, 3, 7, 8] [] [(0, .d (.str a0)), (3, .d (.v (.int .u32 (4294967295 : Int)))), (7, .d (.v (.int .i64 (a0.length : Int)))), (8, .d (.v (.int .i64 (0 : Int))))] [] 3 (by kernel_rfl) (trivial) ?_
  refine T_joinct h (fun (p : Int) => [(3, .d (.v (.int .u32 p)))]) (fun s h => ?_) (fun v6 h => ?_)
  · refine T_co [.keep [0, 3, 7, 8]] ((fun (p : Int × Int) => [(0, .d (.str a0)), (3, .d (.v (.int .u32 p.1))), (7, .d (.v (.int .i64 (a0.length : Int)))), (8, .d (.v (.int .i64 p.2)))]) ((4294967295 : Int), (0 : Int))) (by show _ = _; kernel_rfl) ?_
    refine T_block ?_
    refine T_loopF (ι := Int × Int) (fun (p : Int × Int) => [(0, .d (.str a0)), (3, .d (.v (.int .u32 p.1))), (7, .d (.v (.int .i64 (a0.length : Int)))), (8, .d (.v (.int .i64 p.2)))]) (fun n p => ref3_Check32_L0 F a0 n p.1 p.2 = some s) (fun i hh => by simp [ref3_Check32_L0] at hh) (fun n p h => ?_) F ((4294967295 : Int), (0 : Int)) h
    obtain ⟨v4, v1⟩ := p
    have h : ref3_Check32_L0 F a0 (n + 1) v4 v1 = some s := h
    rw [ref3_Check32_L0] at h
    refine T_region [] [0, 3, 7, 8, 9] [] [(0, .d (.str a0)), (3, .d (.v (.int .u32 v4))), (7, .d (.v (.int .i64 (a0.length : Int)))), (8, .d (.v (.int .i64 v1))), (9, .d (.v (.bool (decide (v1 < (a0.length : Int))))))] [] 1 (by kernel_rfl) (trivial) ?_
    refine T_seqk ?_
    refine T_cond (decide (v1 < (a0.length : Int))) (by kernel_rfl) (fun hc => ?_) (fun hc => ?_)
    · have h := cond_tt hc h
      refine T_skip fun a w hm => then_norm (((?_ : T Tryd.prog e 27 _ _ _) a w hm))
      refine T_seqk ?_
      refine T_block ?_
      refine T_region [] [0, 3, 4, 7, 8] [] [(0, .d (.str a0)), (3, .d (.v (.int .u32 v4))), (4, .d (.v (.int .i64 v1))), (7, .d (.v (.int .i64 (a0.length : Int)))), (8, .d (.v (.int .i64 v1)))] [] 2 (by kernel_rfl) (trivial) ?_
      refine T_region [] [0, 3, 4, 7, 8, 11] [] [(0, .d (.str a0)), (3, .d (.v (.int .u32 v4))), (4, .d (.v (.int .i64 v1))), (7, .d (.v (.int .i64 (a0.length : Int)))), (8, .d (.v (.int .i64 v1))), (11, .d (.v (.int .i64 (0 : Int))))] [] 1 (by kernel_rfl) (trivial) ?_
      refine T_joinct h (fun (p : Int) => [(0, .d (.str a0)), (3, .d (.v (.int .u32 p))), (7, .d (.v (.int .i64 (a0.length : Int)))), (8, .d (.v (.int .i64 v1)))]) (fun s h => ?_) (fun v5 h => ?_)
      · refine T_co [.keep [0, 3, 4, 7, 8, 11]] ((fun (p : Int × Int) => [(0, .d (.str a0)), (3, .d (.v (.int .u32 p.1))), (4, .d (.v (.int .i64 v1))), (7, .d (.v (.int .i64 (a0.length : Int)))), (8, .d (.v (.int .i64 v1))), (11, .d (.v (.int .i64 p.2)))]) (v4, (0 : Int))) (by show _ = _; kernel_rfl) ?_
        refine T_block ?_
        refine T_loopF (ι := Int × Int) (fun (p : Int × Int) => [(0, .d (.str a0)), (3, .d (.v (.int .u32 p.1))), (4, .d (.v (.int .i64 v1))), (7, .d (.v (.int .i64 (a0.length : Int)))), (8, .d (.v (.int .i64 v1))), (11, .d (.v (.int .i64 p.2)))]) (fun n p => ref3_Check32_L2 F a0 v1 n p.1 p.2 = some s) (fun i hh => by simp [ref3_Check32_L2] at hh) (fun n p h => ?_) F (v4, (0 : Int)) h
        obtain ⟨v2, v3⟩ := p
        have h : ref3_Check32_L2 F a0 v1 (n + 1) v2 v3 = some s := h
        rw [ref3_Check32_L2] at h
        refine T_region [] [0, 3, 4, 7, 8, 11, 12] [] [(0, .d (.str a0)), (3, .d (.v (.int .u32 v2))), (4, .d (.v (.int .i64 v1))), (7, .d (.v (.int .i64 (a0.length : Int)))), (8, .d (.v (.int .i64 v1))), (11, .d (.v (.int .i64 v3))), (12, .d (.v (.bool (decide (v3 < (8 : Int))))))] [] 1 (by kernel_rfl) (trivial) ?_
        refine T_seqk ?_
        refine T_cond (decide (v3 < (8 : Int))) (by kernel_rfl) (fun hc => ?_) (fun hc => ?_)
        · have h := cond_tt hc h
          refine T_skip fun a w hm => then_norm (((?_ : T Tryd.prog e 27 _ _ _) a w hm))
          refine T_seqk ?_
          refine T_block ?_
          refine T_region [] [0, 3, 4, 5, 7, 8, 11] [] [(0, .d (.str a0)), (3, .d (.v (.int .u32 v2))), (4, .d (.v (.int .i64 v1))), (5, .d (.v (.int .i64 v3))), (7, .d (.v (.int .i64 (a0.length : Int)))), (8, .d (.v (.int .i64 v1))), (11, .d (.v (.int .i64 v3)))] [] 2 (by kernel_rfl) (trivial) ?_
          obtain ⟨hp1, h⟩ := chk_ok h
          obtain ⟨hp2, h⟩ := chk_ok h
          obtain ⟨z1, hz1, h⟩ := lett_ok h
          obtain ⟨y1, hy1, h⟩ := call_ok h
          refine T_region_end [(6, { rw := some (.d (.v (.int .u8 z1))) }), (8, { res := .d (.v (.int .u32 y1)) })] [0, 3, 4, 7, 8, 11] [] [(0, .d (.str a0)), (3, .d (.v (.int .u32 y1))), (4, .d (.v (.int .i64 v1))), (7, .d (.v (.int .i64 (a0.length : Int)))), (8, .d (.v (.int .i64 v1))), (11, .d (.v (.int .i64 v3)))] [(3, 0 ≤ v1 ∧ v1 < a0.length), (1, 0 ≤ v3), (0, (True) ∧ AV.d (.v (.int .u8 (IntKind.u8.wrap ((BitVec.ofInt IntKind.u8.bits (((a0.getD v1.toNat 0).toNat : Int).fdiv (2 ^ (min v3.toNat IntKind.u8.bits))) &&& BitVec.ofInt IntKind.u8.bits (1 : Int)).toNat : Int)))) = .d (.v (.int .u8 z1))), (1, ACall Tryd.prog 60 [.d (.v (.int .u32 v2)), .d (.v (.bool (z1 == (1 : Int))))] [] (.d (.v (.int .u32 y1))) [])] 1 (by kernel_rfl) (⟨hp1, hp2, ⟨trivial, (by subst hz1; rfl)⟩, ref3_Stepped_ok hy1⟩) fun a w hm => inBlock_norm (then_norm (((?_ : T Tryd.prog e 27 _ _ _) a w hm)))
          refine T_region_end [] [0, 3, 4, 7, 8, 11] [] [(0, .d (.str a0)), (3, .d (.v (.int .u32 y1))), (4, .d (.v (.int .i64 v1))), (7, .d (.v (.int .i64 (a0.length : Int)))), (8, .d (.v (.int .i64 v1))), (11, .d (.v (.int .i64 (IntKind.i64.wrap (v3 + (1 : Int))))))] [] 2 (by kernel_rfl) (trivial) fun a w hm => then_norm (⟨(y1, IntKind.i64.wrap (v3 + (1 : Int))), h, hm.co (cs := [.keep [0, 3, 4, 7, 8, 11]]) (by show _ = _; kernel_rfl)⟩)
        · have h := cond_ff hc h
          obtain hs := Option.some.inj h; subst hs
          refine T_exit fun a w hm => then_exit (then_exit (inBlock_exit (then_norm (hm.co (cs := [.keep [0, 3, 7, 8]]) (by show _ = _; kernel_rfl)))))
      · skip
        refine fun a w hm => inBlock_norm (then_norm (((?_ : T Tryd.prog e 27 _ _ _) a w hm)))
        refine T_region_end [] [0, 3, 7, 8] [] [(0, .d (.str a0)), (3, .d (.v (.int .u32 v5))), (7, .d (.v (.int .i64 (a0.length : Int)))), (8, .d (.v (.int .i64 (IntKind.i64.wrap (v1 + (1 : Int))))))] [] 2 (by kernel_rfl) (trivial) fun a w hm => then_norm (⟨(v5, IntKind.i64.wrap (v1 + (1 : Int))), h, hm.co (cs := [.keep [0, 3, 7, 8]]) (by show _ = _; kernel_rfl)⟩)
    · have h := cond_ff hc h
      obtain hs := Option.some.inj h; subst hs
      refine T_exit fun a w hm => then_exit (then_exit (inBlock_exit (then_norm (hm.co (cs := [.keep [3]]) (by show _ = _; kernel_rfl)))))
  · skip
    refine fun a w hm => then_norm (((?_ : T Tryd.prog e 27 _ _ _) a w hm))
    obtain ⟨z2, hz2, h⟩ := lett_ok h
    refine T_region [(1, { rw := some (.d (.v (.int .u32 z2))) })] [2] [] [(2, .d (.v (.int .u32 z2)))] [(1, (True) ∧ AV.d (.v (.int .u32 (IntKind.u32.wrap ((BitVec.ofInt IntKind.u32.bits v6 ^^^ BitVec.ofInt IntKind.u32.bits (4294967295 : Int)).toNat : Int)))) = .d (.v (.int .u32 z2)))] 1 (by kernel_rfl) (⟨trivial, (by subst hz2; rfl)⟩) ?_
    obtain hs := Option.some.inj h; subst hs
    refine T_ret fun a w hm => T_return (fr' := [(2, .d (.v (.int .u32 z2)))]) [2] (by kernel_rfl) [.keep [2]] (by kernel_rfl) (by kernel_rfl) (by kernel_rfl) (by show _ = _; kernel_rfl) (by exact trivial) a w hm

theorem filter_Hex_ok {F : Nat} {a0 : Int} {r : (List UInt8)} (h : filter_Hex F a0 = some r) : ACall Tryd.prog 22 [.d (.v (.int .u32 a0))] [] (.d (.str r)) [] := by
  rw [filter_Hex] at h
  refine ACall.intro (N := 20) Tryd.func22 rfl rfl rfl rfl rfl fun e => ?_
  refine T_region [] [0] [] [(0, .d (.v (.int .u32 a0)))] [] 1 (by kernel_rfl) (trivial) ?_
  refine T_region [(0, { es := some ((List.replicate 8 0).map cU) })] [0, 3] [] [(0, .d (.v (.int .u32 a0))), (3, .arr 81 1 ((List.replicate 8 0).map cU))] [(0, ArrZero Tryd.prog 81 8 5 ∧ List.replicate 8 (cU 0) = ((List.replicate 8 0).map cU))] 0 (by kernel_rfl) (⟨(by show _ = _; kernel_rfl), repl_ok cU rfl⟩) ?_
  refine T_seqk ?_
  refine T_region [] [0, 3, 5] [] [(0, .d (.v (.int .u32 a0))), (3, .arr 81 1 ((List.replicate 8 0).map cU)), (5, .d (.v (.int .i64 (0 : Int))))] [] 1 (by kernel_rfl) (trivial) ?_
  refine T_joinct h (fun (p : (List UInt8)) => [(3, .arr 81 1 (p.map cU))]) (fun s h => ?_) (fun v3 h => ?_)
  · refine T_co [.keep [0, 3, 5]] ((fun (p : (List UInt8) × Int) => [(0, .d (.v (.int .u32 a0))), (3, .arr 81 1 (p.1.map cU)), (5, .d (.v (.int .i64 p.2)))]) ((List.replicate 8 0), (0 : Int))) (by show _ = _; kernel_rfl) ?_
    refine T_block ?_
    refine T_loopF (ι := (List UInt8) × Int) (fun (p : (List UInt8) × Int) => [(0, .d (.v (.int .u32 a0))), (3, .arr 81 1 (p.1.map cU)), (5, .d (.v (.int .i64 p.2)))]) (fun n p => filter_Hex_L0 F a0 n p.1 p.2 = some s) (fun i hh => by simp [filter_Hex_L0] at hh) (fun n p h => ?_) F ((List.replicate 8 0), (0 : Int)) h
    obtain ⟨v1, v2⟩ := p
    have h : filter_Hex_L0 F a0 (n + 1) v1 v2 = some s := h
    rw [filter_Hex_L0] at h
    refine T_region [] [0, 3, 5, 6] [] [(0, .d (.v (.int .u32 a0))), (3, .arr 81 1 (v1.map cU)), (5, .d (.v (.int .i64 v2))), (6, .d (.v (.bool (decide (v2 < (8 : Int))))))] [] 1 (by kernel_rfl) (trivial) ?_
    refine T_seqk ?_
    refine T_cond (decide (v2 < (8 : Int))) (by kernel_rfl) (fun hc => ?_) (fun hc => ?_)
    · have h := cond_tt hc h
      refine T_skip fun a w hm => then_norm (((?_ : T Tryd.prog e 20 _ _ _) a w hm))
      refine T_seqk ?_
      refine T_block ?_
      refine T_region [] [0, 3, 4, 5] [] [(0, .d (.v (.int .u32 a0))), (3, .arr 81 1 (v1.map cU)), (4, .d (.v (.int .i64 v2))), (5, .d (.v (.int .i64 v2)))] [] 2 (by kernel_rfl) (trivial) ?_
      obtain ⟨hp1, h⟩ := chk_ok h
      obtain ⟨z1, hz1, h⟩ := lett_ok h
      obtain ⟨z2, hz2, h⟩ := lett_ok h
      obtain ⟨hp2, h⟩ := chk_ok h
      obtain ⟨z3, hz3, h⟩ := lett_ok h
      obtain ⟨hp3, h⟩ := chk_ok h
      obtain ⟨hp4, h⟩ := chk_ok h
      refine T_region_end [(5, { rw := some (.d (.v (.int .u32 z1))) }), (6, { rw := some (.d (.v (.int .u32 z2))) }), (7, { rw := some (.d (.v (.int .u8 z3))) }), (9, { cs := cU (v1.getD v2.toNat 0), es := some ((v1.set v2.toNat (UInt8.ofNat z3.toNat)).map cU) })] [0, 3, 5] [] [(0, .d (.v (.int .u32 a0))), (3, .arr 81 1 ((v1.set v2.toNat (UInt8.ofNat z3.toNat)).map cU)), (5, .d (.v (.int .i64 v2)))] [(5, (0 ≤ (IntKind.i64.wrap ((28 : Int) - (IntKind.i64.wrap ((4 : Int) * v2))))) ∧ AV.d (.v (.int .u32 (a0.fdiv (2 ^ (min (IntKind.i64.wrap ((28 : Int) - (IntKind.i64.wrap ((4 : Int) * v2)))).toNat IntKind.u32.bits))))) = .d (.v (.int .u32 z1))), (0, (True) ∧ AV.d (.v (.int .u32 (IntKind.u32.wrap ((BitVec.ofInt IntKind.u32.bits z1 &&& BitVec.ofInt IntKind.u32.bits (15 : Int)).toNat : Int)))) = .d (.v (.int .u32 z2))), (0, (0 ≤ z2 ∧ z2 < ([48, 49, 50, 51, 52, 53, 54, 55, 56, 57, 97, 98, 99, 100, 101, 102] : List UInt8).length) ∧ AV.d (.v (.int .u8 ((([48, 49, 50, 51, 52, 53, 54, 55, 56, 57, 97, 98, 99, 100, 101, 102] : List UInt8).getD z2.toNat 0).toNat : Int))) = .d (.v (.int .u8 z3))), (0, 0 ≤ v2 ∧ v2 < 8), (0, (v1.map cU)[v2.toNat]? = some (cU (v1.getD v2.toNat 0)) ∧ (v1.map cU).set v2.toNat ([Dat.v (.int .u8 z3)]) = ((v1.set v2.toNat (UInt8.ofNat z3.toNat)).map cU))] 0 (by kernel_rfl) (⟨⟨hp1, (by subst hz1; rfl)⟩, ⟨trivial, (by subst hz2; rfl)⟩, ⟨hp2, (by subst hz3; rfl)⟩, (hp3).1, ⟨(idx_ok (d := 0) cU ⟨(hp3).1.1, (hp3).2⟩).2, set_ok cU (cU_ofInt hp4)⟩⟩) fun a w hm => inBlock_norm (then_norm (((?_ : T Tryd.prog e 20 _ _ _) a w hm)))
      refine T_region_end [] [0, 3, 5] [] [(0, .d (.v (.int .u32 a0))), (3, .arr 81 1 ((v1.set v2.toNat (UInt8.ofNat z3.toNat)).map cU)), (5, .d (.v (.int .i64 (IntKind.i64.wrap (v2 + (1 : Int))))))] [] 2 (by kernel_rfl) (trivial) fun a w hm => then_norm (⟨((v1.set v2.toNat (UInt8.ofNat z3.toNat)), IntKind.i64.wrap (v2 + (1 : Int))), h, hm.co (cs := [.keep [0, 3, 5]]) (by show _ = _; kernel_rfl)⟩)
    · have h := cond_ff hc h
      obtain hs := Option.some.inj h; subst hs
      refine T_exit fun a w hm => then_exit (then_exit (inBlock_exit (then_norm (hm.co (cs := [.keep [3]]) (by show _ = _; kernel_rfl)))))
  · skip
    refine fun a w hm => then_norm (((?_ : T Tryd.prog e 20 _ _ _) a w hm))
    obtain ⟨hp5, h⟩ := chk_ok h
    refine T_region [(0, { frz := [(3, 0)], es := some (((v3.drop (0 : Int).toNat).take (((8 : Nat) : Int).toNat - (0 : Int).toNat)).map cU) }), (1, { cs := [.str ((v3.drop (0 : Int).toNat).take (((8 : Nat) : Int).toNat - (0 : Int).toNat))] })] [2] [] [(2, .d (.str ((v3.drop (0 : Int).toNat).take (((8 : Nat) : Int).toNat - (0 : Int).toNat))))] [(0, (0 ≤ (0 : Int) ∧ (0 : Int) ≤ ((8 : Nat) : Int) ∧ ((8 : Nat) : Int) ≤ ((8 : Nat) : Int)) ∧ (((v3.map cU).flatten.drop ((0 : Int).toNat * 1)).take ((((8 : Nat) : Int).toNat - (0 : Int).toNat) * 1) = (((v3.drop (0 : Int).toNat).take (((8 : Nat) : Int).toNat - (0 : Int).toNat)).map cU).flatten ∧ (((v3.drop (0 : Int).toNat).take (((8 : Nat) : Int).toNat - (0 : Int).toNat)).map cU).length = ((8 : Nat) : Int).toNat - (0 : Int).toNat ∧ ∀ e ∈ (((v3.drop (0 : Int).toNat).take (((8 : Nat) : Int).toNat - (0 : Int).toNat)).map cU), e.length = 1)), (0, (((v3.drop (0 : Int).toNat).take (((8 : Nat) : Int).toNat - (0 : Int).toNat)).map cU) = byteCells ((v3.drop (0 : Int).toNat).take (((8 : Nat) : Int).toNat - (0 : Int).toNat)))] 1 (by kernel_rfl) (⟨arrcut_ok cU 1 (fun _ => rfl) hp5, rfl⟩) ?_
    obtain hs := Option.some.inj h; subst hs
    refine T_ret fun a w hm => T_return (fr' := [(2, .d (.str ((v3.drop (0 : Int).toNat).take (((8 : Nat) : Int).toNat - (0 : Int).toNat))))]) [2] (by kernel_rfl) [.keep [2]] (by kernel_rfl) (by kernel_rfl) (by kernel_rfl) (by show _ = _; kernel_rfl) (by exact trivial) a w hm

theorem ref3_Hexed_ok {F : Nat} {a0 : Int} {r : (List UInt8)} (h : ref3_Hexed F a0 = some r) : ACall Tryd.prog 23 [.d (.v (.int .u32 a0))] [] (.d (.str r)) [] := by
  rw [ref3_Hexed] at h
  refine ACall.intro (N := 18) Tryd.func23 rfl rfl rfl rfl rfl fun e => ?_
  refine T_region [] [0] [] [(0, .d (.v (.int .u32 a0)))] [] 1 (by kernel_rfl) (trivial) ?_
  refine T_region [] [0, 3] [] [(0, .d (.v (.int .u32 a0))), (3, .d (.str []))] [] 1 (by kernel_rfl) (trivial) ?_
  refine T_seqk ?_
  refine T_region [] [0, 3, 4] [] [(0, .d (.v (.int .u32 a0))), (3, .d (.str [])), (4, .d (.v (.int .i64 (0 : Int))))] [] 1 (by kernel_rfl) (trivial) ?_
  refine T_joinct h (fun (p : (List UInt8)) => [(3, .d (.str p))]) (fun s h => ?_) (fun v4 h => ?_)
  · refine T_co [.keep [0, 3, 4]] ((fun (p : Int × (List UInt8) × Int) => [(0, .d (.v (.int .u32 p.1))), (3, .d (.str p.2.1)), (4, .d (.v (.int .i64 p.2.2)))]) (a0, [], (0 : Int))) (by show _ = _; kernel_rfl) ?_
    refine T_block ?_
    refine T_loopF (ι := Int × (List UInt8) × Int) (fun (p : Int × (List UInt8) × Int) => [(0, .d (.v (.int .u32 p.1))), (3, .d (.str p.2.1)), (4, .d (.v (.int .i64 p.2.2)))]) (fun n p => ref3_Hexed_L0 F n p.1 p.2.1 p.2.2 = some s) (fun i hh => by simp [ref3_Hexed_L0] at hh) (fun n p h => ?_) F (a0, [], (0 : Int)) h
    obtain ⟨v1, v2, v3⟩ := p
    have h : ref3_Hexed_L0 F (n + 1) v1 v2 v3 = some s := h
    rw [ref3_Hexed_L0] at h
    refine T_region [] [0, 3, 4, 5] [] [(0, .d (.v (.int .u32 v1))), (3, .d (.str v2)), (4, .d (.v (.int .i64 v3))), (5, .d (.v (.bool (decide (v3 < (8 : Int))))))] [] 1 (by kernel_rfl) (trivial) ?_
    refine T_seqk ?_
    refine T_cond (decide (v3 < (8 : Int))) (by kernel_rfl) (fun hc => ?_) (fun hc => ?_)
    · have h := cond_tt hc h
      refine T_skip fun a w hm => then_norm (((?_ : T Tryd.prog e 18 _ _ _) a w hm))
      refine T_seqk ?_
      refine T_block ?_
      obtain ⟨hp1, h⟩ := chk_ok h
      obtain ⟨z1, hz1, h⟩ := lett_ok h
      obtain ⟨hp2, h⟩ := chk_ok h
      refine T_region [(5, { rw := some (.d (.str z1)) })] [0, 3, 4] [] [(0, .d (.v (.int .u32 v1))), (3, .d (.str (z1 ++ v2))), (4, .d (.v (.int .i64 v3)))] [(1, (16 : Int) ≠ 0), (1, (16 : Int) ≠ 0), (1, (0 ≤ (v1.tmod (16 : Int)) ∧ (v1.tmod (16 : Int)) ≤ (IntKind.u32.wrap ((v1.tmod (16 : Int)) + (1 : Int))) ∧ (IntKind.u32.wrap ((v1.tmod (16 : Int)) + (1 : Int))) ≤ (([48, 49, 50, 51, 52, 53, 54, 55, 56, 57, 97, 98, 99, 100, 101, 102] : List UInt8).length : Int)) ∧ AV.d (.str ((([48, 49, 50, 51, 52, 53, 54, 55, 56, 57, 97, 98, 99, 100, 101, 102] : List UInt8).drop (v1.tmod (16 : Int)).toNat).take ((IntKind.u32.wrap ((v1.tmod (16 : Int)) + (1 : Int))).toNat - (v1.tmod (16 : Int)).toNat))) = .d (.str z1)), (1, z1.length + v2.length ≤ 9223372036854775807)] 1 (by kernel_rfl) (⟨(show (16 : Int) ≠ 0 by decide), (show (16 : Int) ≠ 0 by decide), ⟨hp1, (by subst hz1; rfl)⟩, hp2⟩) ?_
      refine T_region_end [] [0, 3, 4] [] [(0, .d (.v (.int .u32 (IntKind.u32.wrap (v1.tdiv (16 : Int)))))), (3, .d (.str (z1 ++ v2))), (4, .d (.v (.int .i64 v3)))] [(1, (16 : Int) ≠ 0)] 1 (by kernel_rfl) ((show (16 : Int) ≠ 0 by decide)) fun a w hm => inBlock_norm (then_norm (((?_ : T Tryd.prog e 18 _ _ _) a w hm)))
      refine T_region_end [] [0, 3, 4] [] [(0, .d (.v (.int .u32 (IntKind.u32.wrap (v1.tdiv (16 : Int)))))), (3, .d (.str (z1 ++ v2))), (4, .d (.v (.int .i64 (IntKind.i64.wrap (v3 + (1 : Int))))))] [] 2 (by kernel_rfl) (trivial) fun a w hm => then_norm (⟨(IntKind.u32.wrap (v1.tdiv (16 : Int)), (z1 ++ v2), IntKind.i64.wrap (v3 + (1 : Int))), h, hm.co (cs := [.keep [0, 3, 4]]) (by show _ = _; kernel_rfl)⟩)
    · have h := cond_ff hc h
      obtain hs := Option.some.inj h; subst hs
      refine T_exit fun a w hm => then_exit (then_exit (inBlock_exit (then_norm (hm.co (cs := [.keep [3]]) (by show _ = _; kernel_rfl)))))
  · skip
    refine fun a w hm => then_norm (((?_ : T Tryd.prog e 18 _ _ _) a w hm))
    refine T_region [] [2] [] [(2, .d (.str v4))] [] 2 (by kernel_rfl) (trivial) ?_
    obtain hs := Option.some.inj h; subst hs
    refine T_ret fun a w hm => T_return (fr' := [(2, .d (.str v4))]) [2] (by kernel_rfl) [.keep [2]] (by kernel_rfl) (by kernel_rfl) (by kernel_rfl) (by show _ = _; kernel_rfl) (by exact trivial) a w hm

theorem law3_FilterSumMatchesReference_ok {F : Nat} {a0 : List UInt8} {r : Bool} (h : law3_FilterSumMatchesReference F a0 = some r) : ACall Tryd.prog 5 [.d (.str a0)] [.glo 0 (glob_filter_steps.flatMap (cI .u32))] (.d (.v (.bool r))) [.glo 0 (glob_filter_steps.flatMap (cI .u32))] := by
  rw [law3_FilterSumMatchesReference] at h
  refine ACall.intro (N := 19) Tryd.func5 rfl rfl rfl rfl rfl fun e => ?_
  refine T_region [] [0, 1000000] [] [(0, .d (.str a0)), (1000000, .glo 0 (glob_filter_steps.flatMap (cI .u32)))] [] 1 (by kernel_rfl) (trivial) ?_
  refine T_seqk ?_
  obtain ⟨y1, hy1, h⟩ := call_ok h
  refine T_region [(0, { res := .d (.v (.bool y1)), vout := [.glo 0 (glob_filter_steps.flatMap (cI .u32))], xs := [1000000] })] [0, 5, 1000000] [] [(0, .d (.str a0)), (5, .d (.v (.bool (!y1)))), (1000000, .glo 0 (glob_filter_steps.flatMap (cI .u32)))] [(0, ACall Tryd.prog 15 [] [.glo 0 (glob_filter_steps.flatMap (cI .u32))] (.d (.v (.bool y1))) [.glo 0 (glob_filter_steps.flatMap (cI .u32))])] 1 (by kernel_rfl) (law3_filterFact_ok hy1) ?_
  refine T_cond (!y1) (by kernel_rfl) (fun hc => ?_) (fun hc => ?_)
  · have h := cond_tt hc h
    refine T_region [] [2, 1000000] [] [(2, .d (.v (.bool false))), (1000000, .glo 0 (glob_filter_steps.flatMap (cI .u32)))] [] 1 (by kernel_rfl) (trivial) ?_
    obtain hs := Option.some.inj h; subst hs
    refine T_ret fun a w hm => then_ret (T_return (fr' := [(2, .d (.v (.bool false))), (1000000, .glo 0 (glob_filter_steps.flatMap (cI .u32)))]) [2] (by kernel_rfl) [.keep [2, 1000000]] (by kernel_rfl) (by kernel_rfl) (by kernel_rfl) (by show _ = _; kernel_rfl) (by exact ⟨⟨by kernel_rfl, by kernel_rfl⟩, trivial⟩) a w hm)
  · have h := cond_ff hc h
    refine T_skip fun a w hm => then_norm (((?_ : T Tryd.prog e 19 _ _ _) a w hm))
    obtain ⟨y2, hy2, h⟩ := call_ok h
    refine T_region [(1, { res := .d (.v (.int .u32 y2)) })] [0, 3, 1000000] [] [(0, .d (.str a0)), (3, .d (.v (.int .u32 y2))), (1000000, .glo 0 (glob_filter_steps.flatMap (cI .u32)))] [(1, ACall Tryd.prog 20 [.d (.str a0)] [] (.d (.v (.int .u32 y2))) [])] 1 (by kernel_rfl) (ref3_Check32_ok hy2) ?_
    obtain ⟨y3, hy3, h⟩ := call_ok h
    obtain ⟨y4, hy4, h⟩ := call_ok h
    obtain ⟨y5, hy5, h⟩ := call_ok h
    refine T_region [(1, { res := .d (.v (.int .u32 y3)), vout := [.glo 0 (glob_filter_steps.flatMap (cI .u32))], xs := [1000000] }), (6, { res := .d (.str y4) }), (8, { res := .d (.str y5) })] [2, 1000000] [] [(2, .d (.v (.bool (bif (y3 == y2) then (y4 == y5) else false)))), (1000000, .glo 0 (glob_filter_steps.flatMap (cI .u32)))] [(1, ACall Tryd.prog 21 [.d (.str a0)] [.glo 0 (glob_filter_steps.flatMap (cI .u32))] (.d (.v (.int .u32 y3))) [.glo 0 (glob_filter_steps.flatMap (cI .u32))]), (3, ((((y3 == y2) == true) && true) = true → True)), (0, ((((y3 == y2) == true) && true) = true → ACall Tryd.prog 22 [.d (.v (.int .u32 y2))] [] (.d (.str y4)) [])), (0, ((((y3 == y2) == true) && true) = true → True)), (0, ((((y3 == y2) == true) && true) = true → ACall Tryd.prog 23 [.d (.v (.int .u32 y2))] [] (.d (.str y5)) [])), (0, ((((y3 == y2) == true) && true) = true → True))] 2 (by kernel_rfl) (⟨filter_Sum_ok hy3, (fun hg => trivial), (fun hg => filter_Hex_ok (gcall_ok hg hy4)), (fun hg => trivial), (fun hg => ref3_Hexed_ok (gcall_ok hg hy5)), (fun hg => trivial)⟩) ?_
    obtain hs := Option.some.inj h; subst hs
    refine T_ret fun a w hm => T_return (fr' := [(2, .d (.v (.bool (bif (y3 == y2) then (y4 == y5) else false)))), (1000000, .glo 0 (glob_filter_steps.flatMap (cI .u32)))]) [2] (by kernel_rfl) [.keep [2, 1000000]] (by kernel_rfl) (by kernel_rfl) (by kernel_rfl) (by show _ = _; kernel_rfl) (by exact ⟨⟨by kernel_rfl, by kernel_rfl⟩, trivial⟩) a w hm

theorem filter_product_ok {F : Nat} {a0 : Int} {a1 : Int} {r : Int} (h : filter_product F a0 a1 = some r) : ACall Tryd.prog 61 [.d (.v (.int .u32 a0)), .d (.v (.int .u32 a1))] [] (.d (.v (.int .u32 r))) [] := by
  rw [filter_product] at h
  refine ACall.intro (N := 26) Tryd.func61 rfl rfl rfl rfl rfl fun e => ?_
  refine T_region [] [0, 1] [] [(0, .d (.v (.int .u32 a0))), (1, .d (.v (.int .u32 a1)))] [] 1 (by kernel_rfl) (trivial) ?_
  refine T_region [] [0, 1, 5] [] [(0, .d (.v (.int .u32 a0))), (1, .d (.v (.int .u32 a1))), (5, .d (.v (.int .u32 (0 : Int))))] [] 1 (by kernel_rfl) (trivial) ?_
  refine T_seqk ?_
  refine T_region [] [0, 1, 5, 6] [] [(0, .d (.v (.int .u32 a0))), (1, .d (.v (.int .u32 a1))), (5, .d (.v (.int .u32 (0 : Int)))), (6, .d (.v (.int .u32 (2147483648 : Int))))] [] 1 (by kernel_rfl) (trivial) ?_
  refine T_joinct h (fun (p : Int) => [(5, .d (.v (.int .u32 p)))]) (fun s h => ?_) (fun v5 h => ?_)
  · refine T_co [.keep [0, 1, 5, 6]] ((fun (p : Int × Int × Int) => [(0, .d (.v (.int .u32 a0))), (1, .d (.v (.int .u32 p.1))), (5, .d (.v (.int .u32 p.2.1))), (6, .d (.v (.int .u32 p.2.2)))]) (a1, (0 : Int), (2147483648 : Int))) (by show _ = _; kernel_rfl) ?_
    refine T_block ?_
    refine T_loopF (ι := Int × Int × Int) (fun (p : Int × Int × Int) => [(0, .d (.v (.int .u32 a0))), (1, .d (.v (.int .u32 p.1))), (5, .d (.v (.int .u32 p.2.1))), (6, .d (.v (.int .u32 p.2.2)))]) (fun n p => filter_product_L0 F a0 n p.1 p.2.1 p.2.2 = some s) (fun i hh => by simp [filter_product_L0] at hh) (fun n p h => ?_) F (a1, (0 : Int), (2147483648 : Int)) h
    obtain ⟨v1, v2, v3⟩ := p
    have h : filter_product_L0 F a0 (n + 1) v1 v2 v3 = some s := h
    rw [filter_product_L0] at h
    refine T_seqk ?_
    refine T_region [] [0, 1, 5, 6, 8] [] [(0, .d (.v (.int .u32 a0))), (1, .d (.v (.int .u32 v1))), (5, .d (.v (.int .u32 v2))), (6, .d (.v (.int .u32 v3))), (8, .d (.v (.bool (v3 != (0 : Int)))))] [] 2 (by kernel_rfl) (trivial) ?_
    refine T_cond (v3 != (0 : Int)) (by kernel_rfl) (fun hc => ?_) (fun hc => ?_)
    · have h := cond_tt hc h
      refine T_skip fun a w hm => then_norm (((?_ : T Tryd.prog e 26 _ _ _) a w hm))
      refine T_seqk ?_
      refine T_block ?_
      refine T_joinc h (fun (p : Int) => [(0, .d (.v (.int .u32 a0))), (1, .d (.v (.int .u32 v1))), (5, .d (.v (.int .u32 p))), (6, .d (.v (.int .u32 v3)))]) (fun s h => ?_) (fun v4 h => ?_)
      · obtain ⟨z1, hz1, h⟩ := lett_ok h
        refine T_region [(2, { rw := some (.d (.v (.int .u32 z1))) })] [0, 1, 5, 6, 14] [] [(0, .d (.v (.int .u32 a0))), (1, .d (.v (.int .u32 v1))), (5, .d (.v (.int .u32 v2))), (6, .d (.v (.int .u32 v3))), (14, .d (.v (.bool (z1 != (0 : Int)))))] [(2, (True) ∧ AV.d (.v (.int .u32 (IntKind.u32.wrap ((BitVec.ofInt IntKind.u32.bits a0 &&& BitVec.ofInt IntKind.u32.bits v3).toNat : Int)))) = .d (.v (.int .u32 z1)))] 1 (by kernel_rfl) (⟨trivial, (by subst hz1; rfl)⟩) ?_
        refine T_cond (z1 != (0 : Int)) (by kernel_rfl) (fun hc => ?_) (fun hc => ?_)
        · have h := cond_tt hc h
          obtain ⟨z2, hz2, h⟩ := lett_ok h
          obtain hs := Option.some.inj h; subst hs
          refine T_region_end [(2, { rw := some (.d (.v (.int .u32 z2))) })] [0, 1, 5, 6] [] [(0, .d (.v (.int .u32 a0))), (1, .d (.v (.int .u32 v1))), (5, .d (.v (.int .u32 z2))), (6, .d (.v (.int .u32 v3)))] [(2, (True) ∧ AV.d (.v (.int .u32 (IntKind.u32.wrap ((BitVec.ofInt IntKind.u32.bits v2 ^^^ BitVec.ofInt IntKind.u32.bits v1).toNat : Int)))) = .d (.v (.int .u32 z2)))] 1 (by kernel_rfl) (⟨trivial, (by subst hz2; rfl)⟩) fun a w hm => then_norm (hm.co (cs := [.keep [0, 1, 5, 6]]) (by show _ = _; kernel_rfl))
        · have h := cond_ff hc h
          obtain hs := Option.some.inj h; subst hs
          refine T_skip fun a w hm => then_norm (hm.co (cs := [.keep [0, 1, 5, 6]]) (by show _ = _; kernel_rfl))
      · skip
        obtain ⟨z3, hz3, h⟩ := lett_ok h
        obtain ⟨z4, hz4, h⟩ := lett_ok h
        obtain ⟨z5, hz5, h⟩ := lett_ok h
        refine T_region_end [(3, { rw := some (.d (.v (.int .u32 z3))) }), (5, { rw := some (.d (.v (.int .u32 z4))) }), (6, { rw := some (.d (.v (.int .u32 z5))) })] [0, 1, 5, 6] [] [(0, .d (.v (.int .u32 a0))), (1, .d (.v (.int .u32 z5))), (5, .d (.v (.int .u32 v4))), (6, .d (.v (.int .u32 v3)))] [(1, 0 ≤ (1 : Int)), (1, (True) ∧ AV.d (.v (.int .u32 (IntKind.u32.wrap ((BitVec.ofInt IntKind.u32.bits v1 &&& BitVec.ofInt IntKind.u32.bits (1 : Int)).toNat : Int)))) = .d (.v (.int .u32 z3))), (1, (True) ∧ AV.d (.v (.int .u32 (IntKind.u32.wrap ((BitVec.ofInt IntKind.u32.bits (IntKind.u32.wrap (0 - z3)) &&& BitVec.ofInt IntKind.u32.bits (3988292384 : Int)).toNat : Int)))) = .d (.v (.int .u32 z4))), (0, (True) ∧ AV.d (.v (.int .u32 (IntKind.u32.wrap ((BitVec.ofInt IntKind.u32.bits (v1.fdiv (2 ^ (min (1 : Int).toNat IntKind.u32.bits))) ^^^ BitVec.ofInt IntKind.u32.bits z4).toNat : Int)))) = .d (.v (.int .u32 z5)))] 1 (by kernel_rfl) (⟨(show 0 ≤ (1 : Int) by decide), ⟨trivial, (by subst hz3; rfl)⟩, ⟨trivial, (by subst hz4; rfl)⟩, ⟨trivial, (by subst hz5; rfl)⟩⟩) fun a w hm => inBlock_norm (then_norm (((?_ : T Tryd.prog e 26 _ _ _) a w hm)))
        refine T_region_end [] [0, 1, 5, 6] [] [(0, .d (.v (.int .u32 a0))), (1, .d (.v (.int .u32 z5))), (5, .d (.v (.int .u32 v4))), (6, .d (.v (.int .u32 (v3.fdiv (2 ^ (min (1 : Int).toNat IntKind.u32.bits))))))] [(1, 0 ≤ (1 : Int))] 1 (by kernel_rfl) ((show 0 ≤ (1 : Int) by decide)) fun a w hm => then_norm (⟨(z5, v4, (v3.fdiv (2 ^ (min (1 : Int).toNat IntKind.u32.bits)))), h, hm.co (cs := [.keep [0, 1, 5, 6]]) (by show _ = _; kernel_rfl)⟩)
    · have h := cond_ff hc h
      obtain hs := Option.some.inj h; subst hs
      refine T_exit fun a w hm => then_exit (then_exit (inBlock_exit (then_norm (hm.co (cs := [.keep [5]]) (by show _ = _; kernel_rfl)))))
  · skip
    refine fun a w hm => then_norm (((?_ : T Tryd.prog e 26 _ _ _) a w hm))
    refine T_region [] [4] [] [(4, .d (.v (.int .u32 v5)))] [] 2 (by kernel_rfl) (trivial) ?_
    obtain hs := Option.some.inj h; subst hs
    refine T_ret fun a w hm => T_return (fr' := [(4, .d (.v (.int .u32 v5)))]) [4] (by kernel_rfl) [.keep [4]] (by kernel_rfl) (by kernel_rfl) (by kernel_rfl) (by show _ = _; kernel_rfl) (by exact trivial) a w hm

theorem filter_Join_ok {F : Nat} {a0 : Int} {a1 : Int} {a2 : Int} {r : Int} (h : filter_Join F a0 a1 a2 = some r) : ACall Tryd.prog 24 [.d (.v (.int .u32 a0)), .d (.v (.int .u32 a1)), .d (.v (.int .i64 a2))] [] (.d (.v (.int .u32 r))) [] := by
  rw [filter_Join] at h
  refine ACall.intro (N := 24) Tryd.func24 rfl rfl rfl rfl rfl fun e => ?_
  refine T_region [] [0, 1, 2] [] [(0, .d (.v (.int .u32 a0))), (1, .d (.v (.int .u32 a1))), (2, .d (.v (.int .i64 a2)))] [] 1 (by kernel_rfl) (trivial) ?_
  refine T_seqk ?_
  refine T_region [] [0, 1, 2, 7] [] [(0, .d (.v (.int .u32 a0))), (1, .d (.v (.int .u32 a1))), (2, .d (.v (.int .i64 a2))), (7, .d (.v (.int .u32 (8388608 : Int))))] [] 1 (by kernel_rfl) (trivial) ?_
  refine T_joinct h (fun (p : Int) => [(0, .d (.v (.int .u32 p))), (1, .d (.v (.int .u32 a1)))]) (fun s h => ?_) (fun v5 h => ?_)
  · refine T_co [.keep [0, 1, 2, 7]] ((fun (p : Int × Int × Int) => [(0, .d (.v (.int .u32 p.1))), (1, .d (.v (.int .u32 a1))), (2, .d (.v (.int .i64 p.2.1))), (7, .d (.v (.int .u32 p.2.2)))]) (a0, a2, (8388608 : Int))) (by show _ = _; kernel_rfl) ?_
    refine T_block ?_
    refine T_loopF (ι := Int × Int × Int) (fun (p : Int × Int × Int) => [(0, .d (.v (.int .u32 p.1))), (1, .d (.v (.int .u32 a1))), (2, .d (.v (.int .i64 p.2.1))), (7, .d (.v (.int .u32 p.2.2)))]) (fun n p => filter_Join_L0 F n p.1 p.2.1 p.2.2 = some s) (fun i hh => by simp [filter_Join_L0] at hh) (fun n p h => ?_) F (a0, a2, (8388608 : Int)) h
    obtain ⟨v1, v2, v3⟩ := p
    have h : filter_Join_L0 F (n + 1) v1 v2 v3 = some s := h
    rw [filter_Join_L0] at h
    refine T_seqk ?_
    refine T_region [] [0, 1, 2, 7, 9] [] [(0, .d (.v (.int .u32 v1))), (1, .d (.v (.int .u32 a1))), (2, .d (.v (.int .i64 v2))), (7, .d (.v (.int .u32 v3))), (9, .d (.v (.bool (decide (v2 > (0 : Int))))))] [] 2 (by kernel_rfl) (trivial) ?_
    refine T_cond (decide (v2 > (0 : Int))) (by kernel_rfl) (fun hc => ?_) (fun hc => ?_)
    · have h := cond_tt hc h
      refine T_skip fun a w hm => then_norm (((?_ : T Tryd.prog e 24 _ _ _) a w hm))
      refine T_seqk ?_
      refine T_block ?_
      refine T_joinc h (fun (p : Int) => [(0, .d (.v (.int .u32 p))), (1, .d (.v (.int .u32 a1))), (2, .d (.v (.int .i64 v2))), (7, .d (.v (.int .u32 v3)))]) (fun s h => ?_) (fun v4 h => ?_)
      · obtain ⟨z1, hz1, h⟩ := lett_ok h
        refine T_region [(1, { rw := some (.d (.v (.int .i64 z1))) })] [0, 1, 2, 7, 14] [] [(0, .d (.v (.int .u32 v1))), (1, .d (.v (.int .u32 a1))), (2, .d (.v (.int .i64 v2))), (7, .d (.v (.int .u32 v3))), (14, .d (.v (.bool (z1 != (0 : Int)))))] [(1, (True) ∧ AV.d (.v (.int .i64 (IntKind.i64.wrap ((BitVec.ofInt IntKind.i64.bits v2 &&& BitVec.ofInt IntKind.i64.bits (1 : Int)).toNat : Int)))) = .d (.v (.int .i64 z1)))] 1 (by kernel_rfl) (⟨trivial, (by subst hz1; rfl)⟩) ?_
        refine T_cond (z1 != (0 : Int)) (by kernel_rfl) (fun hc => ?_) (fun hc => ?_)
        · have h := cond_tt hc h
          obtain ⟨y1, hy1, h⟩ := call_ok h
          obtain hs := Option.some.inj h; subst hs
          refine T_region_end [(2, { res := .d (.v (.int .u32 y1)) })] [0, 1, 2, 7] [] [(0, .d (.v (.int .u32 y1))), (1, .d (.v (.int .u32 a1))), (2, .d (.v (.int .i64 v2))), (7, .d (.v (.int .u32 v3)))] [(2, ACall Tryd.prog 61 [.d (.v (.int .u32 v1)), .d (.v (.int .u32 v3))] [] (.d (.v (.int .u32 y1))) [])] 1 (by kernel_rfl) (filter_product_ok hy1) fun a w hm => then_norm (hm.co (cs := [.keep [0, 1, 2, 7]]) (by show _ = _; kernel_rfl))
        · have h := cond_ff hc h
          obtain hs := Option.some.inj h; subst hs
          refine T_skip fun a w hm => then_norm (hm.co (cs := [.keep [0, 1, 2, 7]]) (by show _ = _; kernel_rfl))
      · skip
        obtain ⟨y2, hy2, h⟩ := call_ok h
        refine T_region_end [(2, { res := .d (.v (.int .u32 y2)) })] [0, 1, 2, 7] [] [(0, .d (.v (.int .u32 v4))), (1, .d (.v (.int .u32 a1))), (2, .d (.v (.int .i64 v2))), (7, .d (.v (.int .u32 y2)))] [(2, ACall Tryd.prog 61 [.d (.v (.int .u32 v3)), .d (.v (.int .u32 v3))] [] (.d (.v (.int .u32 y2))) [])] 1 (by kernel_rfl) (filter_product_ok hy2) fun a w hm => inBlock_norm (then_norm (((?_ : T Tryd.prog e 24 _ _ _) a w hm)))
        refine T_region_end [] [0, 1, 2, 7] [] [(0, .d (.v (.int .u32 v4))), (1, .d (.v (.int .u32 a1))), (2, .d (.v (.int .i64 (v2.fdiv (2 ^ (min (1 : Int).toNat IntKind.i64.bits)))))), (7, .d (.v (.int .u32 y2)))] [(1, 0 ≤ (1 : Int))] 1 (by kernel_rfl) ((show 0 ≤ (1 : Int) by decide)) fun a w hm => then_norm (⟨(v4, (v2.fdiv (2 ^ (min (1 : Int).toNat IntKind.i64.bits))), y2), h, hm.co (cs := [.keep [0, 1, 2, 7]]) (by show _ = _; kernel_rfl)⟩)
    · have h := cond_ff hc h
      obtain hs := Option.some.inj h; subst hs
      refine T_exit fun a w hm => then_exit (then_exit (inBlock_exit (then_norm (hm.co (cs := [.keep [0, 1]]) (by show _ = _; kernel_rfl)))))
  · skip
    refine fun a w hm => then_norm (((?_ : T Tryd.prog e 24 _ _ _) a w hm))
    obtain ⟨z2, hz2, h⟩ := lett_ok h
    refine T_region [(2, { rw := some (.d (.v (.int .u32 z2))) })] [6] [] [(6, .d (.v (.int .u32 z2)))] [(2, (True) ∧ AV.d (.v (.int .u32 (IntKind.u32.wrap ((BitVec.ofInt IntKind.u32.bits v5 ^^^ BitVec.ofInt IntKind.u32.bits a1).toNat : Int)))) = .d (.v (.int .u32 z2)))] 1 (by kernel_rfl) (⟨trivial, (by subst hz2; rfl)⟩) ?_
    obtain hs := Option.some.inj h; subst hs
    refine T_ret fun a w hm => T_return (fr' := [(6, .d (.v (.int .u32 z2)))]) [6] (by kernel_rfl) [.keep [6]] (by kernel_rfl) (by kernel_rfl) (by kernel_rfl) (by show _ = _; kernel_rfl) (by exact trivial) a w hm

theorem ref3_Joined_ok {F : Nat} {a0 : Int} {a1 : Int} {a2 : Int} {r : Int} (h : ref3_Joined F a0 a1 a2 = some r) : ACall Tryd.prog 25 [.d (.v (.int .u32 a0)), .d (.v (.int .u32 a1)), .d (.v (.int .i64 a2))] [] (.d (.v (.int .u32 r))) [] := by
  rw [ref3_Joined] at h
  refine ACall.intro (N := 17) Tryd.func25 rfl rfl rfl rfl rfl fun e => ?_
  refine T_region [] [0, 1, 2] [] [(0, .d (.v (.int .u32 a0))), (1, .d (.v (.int .u32 a1))), (2, .d (.v (.int .i64 a2)))] [] 1 (by kernel_rfl) (trivial) ?_
  refine T_seqk ?_
  refine T_region [] [0, 1, 8, 9] [] [(0, .d (.v (.int .u32 a0))), (1, .d (.v (.int .u32 a1))), (8, .d (.v (.int .i64 (IntKind.i64.wrap ((8 : Int) * a2))))), (9, .d (.v (.int .i64 (0 : Int))))] [] 3 (by kernel_rfl) (trivial) ?_
  refine T_joinct h (fun (p : Int) => [(0, .d (.v (.int .u32 p))), (1, .d (.v (.int .u32 a1)))]) (fun s h => ?_) (fun v3 h => ?_)
  · refine T_co [.keep [0, 1, 8, 9]] ((fun (p : Int × Int) => [(0, .d (.v (.int .u32 p.1))), (1, .d (.v (.int .u32 a1))), (8, .d (.v (.int .i64 (IntKind.i64.wrap ((8 : Int) * a2))))), (9, .d (.v (.int .i64 p.2)))]) (a0, (0 : Int))) (by show _ = _; kernel_rfl) ?_
    refine T_block ?_
    refine T_loopF (ι := Int × Int) (fun (p : Int × Int) => [(0, .d (.v (.int .u32 p.1))), (1, .d (.v (.int .u32 a1))), (8, .d (.v (.int .i64 (IntKind.i64.wrap ((8 : Int) * a2))))), (9, .d (.v (.int .i64 p.2)))]) (fun n p => ref3_Joined_L0 F a2 n p.1 p.2 = some s) (fun i hh => by simp [ref3_Joined_L0] at hh) (fun n p h => ?_) F (a0, (0 : Int)) h
    obtain ⟨v1, v2⟩ := p
    have h : ref3_Joined_L0 F a2 (n + 1) v1 v2 = some s := h
    rw [ref3_Joined_L0] at h
    refine T_region [] [0, 1, 8, 9, 10] [] [(0, .d (.v (.int .u32 v1))), (1, .d (.v (.int .u32 a1))), (8, .d (.v (.int .i64 (IntKind.i64.wrap ((8 : Int) * a2))))), (9, .d (.v (.int .i64 v2))), (10, .d (.v (.bool (decide (v2 < (IntKind.i64.wrap ((8 : Int) * a2)))))))] [] 1 (by kernel_rfl) (trivial) ?_
    refine T_seqk ?_
    refine T_cond (decide (v2 < (IntKind.i64.wrap ((8 : Int) * a2)))) (by kernel_rfl) (fun hc => ?_) (fun hc => ?_)
    · have h := cond_tt hc h
      refine T_skip fun a w hm => then_norm (((?_ : T Tryd.prog e 17 _ _ _) a w hm))
      refine T_seqk ?_
      refine T_block ?_
      obtain ⟨y1, hy1, h⟩ := call_ok h
      refine T_region_end [(1, { res := .d (.v (.int .u32 y1)) })] [0, 1, 8, 9] [] [(0, .d (.v (.int .u32 y1))), (1, .d (.v (.int .u32 a1))), (8, .d (.v (.int .i64 (IntKind.i64.wrap ((8 : Int) * a2))))), (9, .d (.v (.int .i64 v2)))] [(1, ACall Tryd.prog 60 [.d (.v (.int .u32 v1)), .d (.v (.bool false))] [] (.d (.v (.int .u32 y1))) [])] 1 (by kernel_rfl) (ref3_Stepped_ok hy1) fun a w hm => inBlock_norm (then_norm (((?_ : T Tryd.prog e 17 _ _ _) a w hm)))
      refine T_region_end [] [0, 1, 8, 9] [] [(0, .d (.v (.int .u32 y1))), (1, .d (.v (.int .u32 a1))), (8, .d (.v (.int .i64 (IntKind.i64.wrap ((8 : Int) * a2))))), (9, .d (.v (.int .i64 (IntKind.i64.wrap (v2 + (1 : Int))))))] [] 2 (by kernel_rfl) (trivial) fun a w hm => then_norm (⟨(y1, IntKind.i64.wrap (v2 + (1 : Int))), h, hm.co (cs := [.keep [0, 1, 8, 9]]) (by show _ = _; kernel_rfl)⟩)
    · have h := cond_ff hc h
      obtain hs := Option.some.inj h; subst hs
      refine T_exit fun a w hm => then_exit (then_exit (inBlock_exit (then_norm (hm.co (cs := [.keep [0, 1]]) (by show _ = _; kernel_rfl)))))
  · skip
    refine fun a w hm => then_norm (((?_ : T Tryd.prog e 17 _ _ _) a w hm))
    obtain ⟨z1, hz1, h⟩ := lett_ok h
    refine T_region [(2, { rw := some (.d (.v (.int .u32 z1))) })] [6] [] [(6, .d (.v (.int .u32 z1)))] [(2, (True) ∧ AV.d (.v (.int .u32 (IntKind.u32.wrap ((BitVec.ofInt IntKind.u32.bits v3 ^^^ BitVec.ofInt IntKind.u32.bits a1).toNat : Int)))) = .d (.v (.int .u32 z1)))] 1 (by kernel_rfl) (⟨trivial, (by subst hz1; rfl)⟩) ?_
    obtain hs := Option.some.inj h; subst hs
    refine T_ret fun a w hm => T_return (fr' := [(6, .d (.v (.int .u32 z1)))]) [6] (by kernel_rfl) [.keep [6]] (by kernel_rfl) (by kernel_rfl) (by kernel_rfl) (by show _ = _; kernel_rfl) (by exact trivial) a w hm

theorem law3_FilterJoinMatchesReference_ok {F : Nat} {a0 : Int} {a1 : Int} {a2 : Int} {r : Bool} (h : law3_FilterJoinMatchesReference F a0 a1 a2 = some r) : ACall Tryd.prog 6 [.d (.v (.int .u32 a0)), .d (.v (.int .u32 a1)), .d (.v (.int .i64 a2))] [.glo 0 (glob_filter_steps.flatMap (cI .u32))] (.d (.v (.bool r))) [.glo 0 (glob_filter_steps.flatMap (cI .u32))] := by
  rw [law3_FilterJoinMatchesReference] at h
  refine ACall.intro (N := 29) Tryd.func6 rfl rfl rfl rfl rfl fun e => ?_
  refine T_region [] [0, 1, 2, 1000000] [] [(0, .d (.v (.int .u32 a0))), (1, .d (.v (.int .u32 a1))), (2, .d (.v (.int .i64 a2))), (1000000, .glo 0 (glob_filter_steps.flatMap (cI .u32)))] [] 1 (by kernel_rfl) (trivial) ?_
  refine T_seqk ?_
  obtain ⟨y1, hy1, h⟩ := call_ok h
  obtain ⟨y2, hy2, h⟩ := call_ok h
  obtain ⟨y3, hy3, h⟩ := call_ok h
  obtain ⟨y4, hy4, h⟩ := call_ok h
  refine T_region [(0, { res := .d (.v (.bool y1)), vout := [.glo 0 (glob_filter_steps.flatMap (cI .u32))], xs := [1000000] }), (3, { res := .d (.v (.int .u32 y2)), vout := [.glo 0 (glob_filter_steps.flatMap (cI .u32))], xs := [1000000] }), (4, { res := .d (.v (.int .u32 y3)), vout := [.glo 0 (glob_filter_steps.flatMap (cI .u32))], xs := [1000000] }), (5, { res := .d (.v (.int .u32 y4)) })] [0, 1, 2, 14, 1000000] [] [(0, .d (.v (.int .u32 a0))), (1, .d (.v (.int .u32 a1))), (2, .d (.v (.int .i64 a2))), (14, .d (.v (.bool (bif (!y1) then true else (y4 != (3421780262 : Int)))))), (1000000, .glo 0 (glob_filter_steps.flatMap (cI .u32)))] [(0, ACall Tryd.prog 15 [] [.glo 0 (glob_filter_steps.flatMap (cI .u32))] (.d (.v (.bool y1))) [.glo 0 (glob_filter_steps.flatMap (cI .u32))]), (2, ((((!y1) == false) && true) = true → ACall Tryd.prog 21 [.d (.str ([49, 50, 51, 52, 53] : List UInt8))] [.glo 0 (glob_filter_steps.flatMap (cI .u32))] (.d (.v (.int .u32 y2))) [.glo 0 (glob_filter_steps.flatMap (cI .u32))])), (0, ((((!y1) == false) && true) = true → ACall Tryd.prog 21 [.d (.str ([54, 55, 56, 57] : List UInt8))] [.glo 0 (glob_filter_steps.flatMap (cI .u32))] (.d (.v (.int .u32 y3))) [.glo 0 (glob_filter_steps.flatMap (cI .u32))])), (0, ((((!y1) == false) && true) = true → ACall Tryd.prog 24 [.d (.v (.int .u32 y2)), .d (.v (.int .u32 y3)), .d (.v (.int .i64 (4 : Int)))] [] (.d (.v (.int .u32 y4))) [])), (0, ((((!y1) == false) && true) = true → True))] 1 (by kernel_rfl) (⟨law3_filterFact_ok hy1, (fun hg => filter_Sum_ok (gcall_ok hg hy2)), (fun hg => filter_Sum_ok (gcall_ok hg hy3)), (fun hg => filter_Join_ok (gcall_ok hg hy4)), (fun hg => trivial)⟩) ?_
  refine T_cond (bif (!y1) then true else (y4 != (3421780262 : Int))) (by kernel_rfl) (fun hc => ?_) (fun hc => ?_)
  · have h := cond_tt hc h
    refine T_region [] [6, 1000000] [] [(6, .d (.v (.bool false))), (1000000, .glo 0 (glob_filter_steps.flatMap (cI .u32)))] [] 1 (by kernel_rfl) (trivial) ?_
    obtain hs := Option.some.inj h; subst hs
    refine T_ret fun a w hm => then_ret (T_return (fr' := [(6, .d (.v (.bool false))), (1000000, .glo 0 (glob_filter_steps.flatMap (cI .u32)))]) [6] (by kernel_rfl) [.keep [6, 1000000]] (by kernel_rfl) (by kernel_rfl) (by kernel_rfl) (by show _ = _; kernel_rfl) (by exact ⟨⟨by kernel_rfl, by kernel_rfl⟩, trivial⟩) a w hm)
  · have h := cond_ff hc h
    refine T_skip fun a w hm => then_norm (((?_ : T Tryd.prog e 29 _ _ _) a w hm))
    refine T_joinc h (fun (p : Int) => [(0, .d (.v (.int .u32 a0))), (1, .d (.v (.int .u32 a1))), (2, .d (.v (.int .i64 p))), (1000000, .glo 0 (glob_filter_steps.flatMap (cI .u32)))]) (fun s h => ?_) (fun v1 h => ?_)
    · refine T_region [] [0, 1, 2, 16, 1000000] [] [(0, .d (.v (.int .u32 a0))), (1, .d (.v (.int .u32 a1))), (2, .d (.v (.int .i64 a2))), (16, .d (.v (.bool (decide (a2 > (2000 : Int)))))), (1000000, .glo 0 (glob_filter_steps.flatMap (cI .u32)))] [] 2 (by kernel_rfl) (trivial) ?_
      refine T_cond (decide (a2 > (2000 : Int))) (by kernel_rfl) (fun hc => ?_) (fun hc => ?_)
      · have h := cond_tt hc h
        obtain hs := Option.some.inj h; subst hs
        refine T_region_end [] [0, 1, 2, 1000000] [] [(0, .d (.v (.int .u32 a0))), (1, .d (.v (.int .u32 a1))), (2, .d (.v (.int .i64 (a2.tmod (2000 : Int))))), (1000000, .glo 0 (glob_filter_steps.flatMap (cI .u32)))] [(1, (2000 : Int) ≠ 0)] 1 (by kernel_rfl) ((show (2000 : Int) ≠ 0 by decide)) fun a w hm => then_norm (hm.co (cs := [.keep [0, 1, 2, 1000000]]) (by show _ = _; kernel_rfl))
      · have h := cond_ff hc h
        obtain hs := Option.some.inj h; subst hs
        refine T_skip fun a w hm => then_norm (hm.co (cs := [.keep [0, 1, 2, 1000000]]) (by show _ = _; kernel_rfl))
    · skip
      obtain ⟨y5, hy5, h⟩ := call_ok h
      obtain ⟨y6, hy6, h⟩ := call_ok h
      refine T_region [(3, { res := .d (.v (.int .u32 y5)) }), (8, { res := .d (.v (.int .u32 y6)) })] [6, 1000000] [] [(6, .d (.v (.bool (y5 == y6)))), (1000000, .glo 0 (glob_filter_steps.flatMap (cI .u32)))] [(3, ACall Tryd.prog 24 [.d (.v (.int .u32 a0)), .d (.v (.int .u32 a1)), .d (.v (.int .i64 v1))] [] (.d (.v (.int .u32 y5))) []), (4, ACall Tryd.prog 25 [.d (.v (.int .u32 a0)), .d (.v (.int .u32 a1)), .d (.v (.int .i64 (if v1 < (0 : Int) then (0 : Int) else v1)))] [] (.d (.v (.int .u32 y6))) [])] 2 (by kernel_rfl) (⟨filter_Join_ok hy5, ref3_Joined_ok hy6⟩) ?_
      obtain hs := Option.some.inj h; subst hs
      refine T_ret fun a w hm => T_return (fr' := [(6, .d (.v (.bool (y5 == y6)))), (1000000, .glo 0 (glob_filter_steps.flatMap (cI .u32)))]) [6] (by kernel_rfl) [.keep [6, 1000000]] (by kernel_rfl) (by kernel_rfl) (by kernel_rfl) (by show _ = _; kernel_rfl) (by exact ⟨⟨by kernel_rfl, by kernel_rfl⟩, trivial⟩) a w hm

theorem filter_repeated_ok {F : Nat} {a0 : List UInt8} {r : Int} (h : filter_repeated F a0 = some r) : ACall Tryd.prog 198 [.d (.str a0)] [] (.d (.v (.int .i64 r))) [] := by
  rw [filter_repeated] at h
  refine ACall.intro (N := 23) Tryd.func198 rfl rfl rfl rfl rfl fun e => ?_
  refine T_region [] [0] [] [(0, .d (.str a0))] [] 1 (by kernel_rfl) (trivial) ?_
  refine T_region [] [0, 3] [] [(0, .d (.str a0)), (3, .d (.v (.int .i64 (1 : Int))))] [] 1 (by kernel_rfl) (trivial) ?_
  refine T_joinc h (fun (p : Int) => [(3, .d (.v (.int .i64 p)))]) (fun s h => ?_) (fun v2 h => ?_)
  · refine T_co [.keep [0, 3]] ((fun (p : Int) => [(0, .d (.str a0)), (3, .d (.v (.int .i64 p)))]) (1 : Int)) (by show _ = _; kernel_rfl) ?_
    refine T_block ?_
    refine T_loopF (ι := Int) (fun (p : Int) => [(0, .d (.str a0)), (3, .d (.v (.int .i64 p)))]) (fun n p => filter_repeated_L0 F a0 n p = some s) (fun i hh => by simp [filter_repeated_L0] at hh) (fun n v1 h => ?_) F (1 : Int) h
    have h : filter_repeated_L0 F a0 (n + 1) v1 = some s := h
    rw [filter_repeated_L0] at h
    refine T_seqk ?_
    obtain ⟨hp1, h⟩ := chk_ok h
    obtain ⟨hp2, h⟩ := chk_ok h
    obtain ⟨z1, hz1, h⟩ := lett_ok h
    refine T_draw mixed [(15, { rw := some (.d (.v (.bool z1))) })] [0, 3, 19] [] [(0, .d (.str a0)), (3, .d (.v (.int .i64 v1))), (19, .d (.v (.bool z1)))] [(5, ((((decide (v1 < (a0.length : Int))) == true) && true) = true → True)), (0, ((((decide (v1 < (a0.length : Int))) == true) && true) = true → True)), (2, ((((bif (decide (v1 < (a0.length : Int))) then (decide (v1 < (128 : Int))) else false) == true) && true) = true → True)), (0, ((((bif (decide (v1 < (a0.length : Int))) then (decide (v1 < (128 : Int))) else false) == true) && true) = true → True)), (0, ((((bif (decide (v1 < (a0.length : Int))) then (decide (v1 < (128 : Int))) else false) == true) && true) = true → 0 ≤ v1 ∧ v1 < a0.length)), (0, ((((bif (decide (v1 < (a0.length : Int))) then (decide (v1 < (128 : Int))) else false) == true) && true) = true → True)), (0, ((((bif (decide (v1 < (a0.length : Int))) then (decide (v1 < (128 : Int))) else false) == true) && true) = true → 0 ≤ (0 : Int) ∧ (0 : Int) < a0.length)), (0, ((((bif (decide (v1 < (a0.length : Int))) then (decide (v1 < (128 : Int))) else false) == true) && true) = true → True)), (0, (True) ∧ AV.d (.v (.bool (bif (bif (decide (v1 < (a0.length : Int))) then (decide (v1 < (128 : Int))) else false) then (((a0.getD v1.toNat 0).toNat : Int) == ((a0.getD (0 : Int).toNat 0).toNat : Int)) else false))) = .d (.v (.bool z1)))] 0 (by kernel_rfl) (⟨(fun hg => trivial), (fun hg => trivial), (fun hg => trivial), (fun hg => trivial), (fun hg => (hp1 hg)), (fun hg => trivial), (fun hg => (hp2 hg)), (fun hg => trivial), ⟨trivial, (by subst hz1; rfl)⟩⟩) ?_
    refine T_cond z1 (by kernel_rfl) (fun hc => ?_) (fun hc => ?_)
    · have h := cond_tt hc h
      refine T_skip fun a w hm => then_norm (((?_ : T Tryd.prog e 23 _ _ _) a w hm))
      refine T_block ?_
      refine T_region_end [] [0, 3] [] [(0, .d (.str a0)), (3, .d (.v (.int .i64 (IntKind.i64.wrap (v1 + (1 : Int))))))] [] 3 (by kernel_rfl) (trivial) fun a w hm => inBlock_norm (then_norm (⟨IntKind.i64.wrap (v1 + (1 : Int)), h, hm.co (cs := [.keep [0, 3]]) (by show _ = _; kernel_rfl)⟩))
    · have h := cond_ff hc h
      obtain hs := Option.some.inj h; subst hs
      refine T_exit fun a w hm => then_exit (then_exit (inBlock_exit (then_norm (hm.co (cs := [.keep [3]]) (by show _ = _; kernel_rfl)))))
  · skip
    refine T_region [] [2] [] [(2, .d (.v (.int .i64 v2)))] [] 2 (by kernel_rfl) (trivial) ?_
    obtain hs := Option.some.inj h; subst hs
    refine T_ret fun a w hm => T_return (fr' := [(2, .d (.v (.int .i64 v2)))]) [2] (by kernel_rfl) [.keep [2]] (by kernel_rfl) (by kernel_rfl) (by kernel_rfl) (by show _ = _; kernel_rfl) (by exact trivial) a w hm

theorem strings_Builder_WriteByte_ok {F : Nat} {a0 : Int} {c1 : List UInt8} {r : Unit × (List UInt8)} (h : strings_Builder_WriteByte F a0 c1 = some r) : ACall Tryd.prog 89 [.bp 1000000 0, .d (.v (.int .u8 a0))] [.box [.slf 0 89, .own 5 1 (c1.map cU)]] (.d (.v .nilIface)) [.box [.slf 0 89, .own 5 1 (r.2.map cU)]] := by
  rw [strings_Builder_WriteByte] at h
  refine ACall.intro (N := 17) Tryd.func89 rfl rfl rfl rfl rfl fun e => ?_
  refine T_region [] [0, 1, 1000000] [] [(0, .bp 1000000 0), (1, .d (.v (.int .u8 a0))), (1000000, .box [.slf 0 89, .own 5 1 (c1.map cU)])] [] 1 (by kernel_rfl) (trivial) ?_
  refine T_region [(1, { xs := [1000000], res := .tup [], vout := [.box [.slf 0 89, .own 5 1 (c1.map cU)]] })] [0, 1, 1000000] [] [(0, .bp 1000000 0), (1, .d (.v (.int .u8 a0))), (1000000, .box [.slf 0 89, .own 5 1 (c1.map cU)])] [(1, ACall Tryd.prog 112 [.bp 1000000 0] [.box [.slf 0 89, .own 5 1 (c1.map cU)]] (.tup []) [.box [.slf 0 89, .own 5 1 (c1.map cU)]])] 0 (by kernel_rfl) (b_copyCheck (E := 89) (by kernel_rfl) (by kernel_rfl) (by kernel_rfl)) ?_
  obtain ⟨hp1, h⟩ := chk_ok h
  obtain ⟨hp2, h⟩ := chk_ok h
  refine T_region [(6, { es := some (([(UInt8.ofNat a0.toNat)]).map cU) }), (7, { es := some ((c1 ++ ([(UInt8.ofNat a0.toNat)])).map cU) })] [1000000] [] [(1000000, .box [.slf 0 89, .own 5 1 ((c1 ++ ([(UInt8.ofNat a0.toNat)])).map cU)])] [(6, [[Dat.v (.int .u8 a0)]] = (([(UInt8.ofNat a0.toNat)]).map cU)), (0, (c1.map cU).length + (([(UInt8.ofNat a0.toNat)]).map cU).length ≤ 4294967296 ∧ (c1.map cU) ++ (([(UInt8.ofNat a0.toNat)]).map cU) = ((c1 ++ ([(UInt8.ofNat a0.toNat)])).map cU))] 3 (by kernel_rfl) (⟨(lit_u hp1 rfl), app_ok cU hp2⟩) ?_
  refine T_region [] [4, 1000000] [] [(4, .d (.v .nilIface)), (1000000, .box [.slf 0 89, .own 5 1 ((c1 ++ ([(UInt8.ofNat a0.toNat)])).map cU)])] [] 1 (by kernel_rfl) (trivial) ?_
  obtain hs := Option.some.inj h; subst hs
  refine T_ret fun a w hm => T_return (fr' := [(4, .d (.v .nilIface)), (1000000, .box [.slf 0 89, .own 5 1 ((c1 ++ ([(UInt8.ofNat a0.toNat)])).map cU)])]) [4] (by kernel_rfl) [.keep [4, 1000000]] (by kernel_rfl) (by kernel_rfl) (by kernel_rfl) (by show _ = _; kernel_rfl) (by exact ⟨⟨by kernel_rfl, by kernel_rfl⟩, trivial⟩) a w hm

theorem filter_runs_encode_ok {F : Nat} {a0 : S_filter_copies} {a1 : List UInt8} {r : (List UInt8)} (h : filter_runs_encode F a0 a1 = some r) : ACall Tryd.prog 197 [.agg (cS_filter_copies a0), .d (.str a1)] [] (.d (.str r)) [] := by
  rw [filter_runs_encode] at h
  refine ACall.intro (N := 133) Tryd.func197 rfl rfl rfl rfl rfl fun e => ?_
  refine T_region [] [1] [] [(1, .d (.str a1))] [] 2 (by kernel_rfl) (trivial) ?_
  obtain ⟨hp1, h⟩ := chk_ok h
  refine T_region [(3, { es := some ((List.replicate (IntKind.i64.wrap ((a1.length : Int) + (1 : Int))).toNat 0).map (cI .i64)) })] [1, 5] [] [(1, .d (.str a1)), (5, .own 3 1 ((List.replicate (IntKind.i64.wrap ((a1.length : Int) + (1 : Int))).toNat 0).map (cI .i64)))] [(3, (0 ≤ (IntKind.i64.wrap ((a1.length : Int) + (1 : Int))) ∧ (IntKind.i64.wrap ((a1.length : Int) + (1 : Int))) ≤ (IntKind.i64.wrap ((a1.length : Int) + (1 : Int))) ∧ (IntKind.i64.wrap ((a1.length : Int) + (1 : Int))) ≤ 9223372036854775807 ∧ ((8 : Nat) : Int) * (IntKind.i64.wrap ((a1.length : Int) + (1 : Int))) ≤ 281474976710656) ∧ List.replicate (IntKind.i64.wrap ((a1.length : Int) + (1 : Int))).toNat ((cI .i64) 0) = ((List.replicate (IntKind.i64.wrap ((a1.length : Int) + (1 : Int))).toNat 0).map (cI .i64)))] 1 (by kernel_rfl) (⟨hp1, repl_ok (cI .i64) rfl⟩) ?_
  obtain ⟨hp2, h⟩ := chk_ok h
  refine T_region [(3, { es := some ((List.replicate (IntKind.i64.wrap ((a1.length : Int) + (1 : Int))).toNat 0).map (cI .i64)) })] [1, 5, 6] [] [(1, .d (.str a1)), (5, .own 3 1 ((List.replicate (IntKind.i64.wrap ((a1.length : Int) + (1 : Int))).toNat 0).map (cI .i64))), (6, .own 3 1 ((List.replicate (IntKind.i64.wrap ((a1.length : Int) + (1 : Int))).toNat 0).map (cI .i64)))] [(3, (0 ≤ (IntKind.i64.wrap ((a1.length : Int) + (1 : Int))) ∧ (IntKind.i64.wrap ((a1.length : Int) + (1 : Int))) ≤ (IntKind.i64.wrap ((a1.length : Int) + (1 : Int))) ∧ (IntKind.i64.wrap ((a1.length : Int) + (1 : Int))) ≤ 9223372036854775807 ∧ ((8 : Nat) : Int) * (IntKind.i64.wrap ((a1.length : Int) + (1 : Int))) ≤ 281474976710656) ∧ List.replicate (IntKind.i64.wrap ((a1.length : Int) + (1 : Int))).toNat ((cI .i64) 0) = ((List.replicate (IntKind.i64.wrap ((a1.length : Int) + (1 : Int))).toNat 0).map (cI .i64)))] 1 (by kernel_rfl) (⟨hp2, repl_ok (cI .i64) rfl⟩) ?_
  refine T_seqk ?_
  refine T_region [] [1, 5, 6, 7] [] [(1, .d (.str a1)), (5, .own 3 1 ((List.replicate (IntKind.i64.wrap ((a1.length : Int) + (1 : Int))).toNat 0).map (cI .i64))), (6, .own 3 1 ((List.replicate (IntKind.i64.wrap ((a1.length : Int) + (1 : Int))).toNat 0).map (cI .i64))), (7, .d (.v (.int .i64 (IntKind.i64.wrap ((a1.length : Int) - (1 : Int))))))] [] 4 (by kernel_rfl) (trivial) ?_
  refine T_joinct h (fun (p : (List Int)) => [(1, .d (.str a1)), (6, .own 3 1 (p.map (cI .i64)))]) (fun s h => ?_) (fun v13 h => ?_)
  · refine T_co [.keep [1, 5, 6, 7]] ((fun (p : (List Int) × (List Int) × Int) => [(1, .d (.str a1)), (5, .own 3 1 (p.1.map (cI .i64))), (6, .own 3 1 (p.2.1.map (cI .i64))), (7, .d (.v (.int .i64 p.2.2)))]) ((List.replicate (IntKind.i64.wrap ((a1.length : Int) + (1 : Int))).toNat 0), (List.replicate (IntKind.i64.wrap ((a1.length : Int) + (1 : Int))).toNat 0), IntKind.i64.wrap ((a1.length : Int) - (1 : Int)))) (by show _ = _; kernel_rfl) ?_
    refine T_block ?_
    refine T_loopF (ι := (List Int) × (List Int) × Int) (fun (p : (List Int) × (List Int) × Int) => [(1, .d (.str a1)), (5, .own 3 1 (p.1.map (cI .i64))), (6, .own 3 1 (p.2.1.map (cI .i64))), (7, .d (.v (.int .i64 p.2.2)))]) (fun n p => filter_runs_encode_L0 F a1 n p.1 p.2.1 p.2.2 = some s) (fun i hh => by simp [filter_runs_encode_L0] at hh) (fun n p h => ?_) F ((List.replicate (IntKind.i64.wrap ((a1.length : Int) + (1 : Int))).toNat 0), (List.replicate (IntKind.i64.wrap ((a1.length : Int) + (1 : Int))).toNat 0), IntKind.i64.wrap ((a1.length : Int) - (1 : Int))) h
    obtain ⟨v7, v8, v1⟩ := p
    have h : filter_runs_encode_L0 F a1 (n + 1) v7 v8 v1 = some s := h
    rw [filter_runs_encode_L0] at h
    refine T_seqk ?_
    refine T_region [] [1, 5, 6, 7, 26] [] [(1, .d (.str a1)), (5, .own 3 1 (v7.map (cI .i64))), (6, .own 3 1 (v8.map (cI .i64))), (7, .d (.v (.int .i64 v1))), (26, .d (.v (.bool (decide (v1 ≥ (0 : Int))))))] [] 2 (by kernel_rfl) (trivial) ?_
    refine T_cond (decide (v1 ≥ (0 : Int))) (by kernel_rfl) (fun hc => ?_) (fun hc => ?_)
    · have h := cond_tt hc h
      refine T_skip fun a w hm => then_norm (((?_ : T Tryd.prog e 133 _ _ _) a w hm))
      refine T_seqk ?_
      refine T_block ?_
      obtain ⟨hp3, h⟩ := chk_ok h
      obtain ⟨y1, hy1, h⟩ := call_ok h
      refine T_region [(3, { res := .d (.v (.int .i64 y1)) })] [1, 5, 6, 7, 8] [] [(1, .d (.str a1)), (5, .own 3 1 (v7.map (cI .i64))), (6, .own 3 1 (v8.map (cI .i64))), (7, .d (.v (.int .i64 v1))), (8, .d (.v (.int .i64 y1)))] [(2, 0 ≤ v1 ∧ v1 ≤ (a1.length : Int) ∧ (a1.length : Int) ≤ (a1.length : Int)), (0, ACall Tryd.prog 198 [.d (.str ((a1.drop v1.toNat).take ((a1.length : Int).toNat - v1.toNat)))] [] (.d (.v (.int .i64 y1))) [])] 1 (by kernel_rfl) (⟨hp3, filter_repeated_ok hy1⟩) ?_
      obtain ⟨hp4, h⟩ := chk_ok h
      obtain ⟨hp5, h⟩ := chk_ok h
      refine T_region [(7, { cs := (cI .i64) (v7.getD (IntKind.i64.wrap (v1 + y1)).toNat 0) }), (10, { cs := (cI .i64) (v7.getD v1.toNat 0), es := some ((v7.set v1.toNat (IntKind.i64.wrap ((2 : Int) + (v7.getD (IntKind.i64.wrap (v1 + y1)).toNat 0)))).map (cI .i64)) })] [1, 5, 6, 7, 8] [] [(1, .d (.str a1)), (5, .own 3 1 ((v7.set v1.toNat (IntKind.i64.wrap ((2 : Int) + (v7.getD (IntKind.i64.wrap (v1 + y1)).toNat 0)))).map (cI .i64))), (6, .own 3 1 (v8.map (cI .i64))), (7, .d (.v (.int .i64 v1))), (8, .d (.v (.int .i64 y1)))] [(6, 0 ≤ (IntKind.i64.wrap (v1 + y1)) ∧ (IntKind.i64.wrap (v1 + y1)) < (v7.map (cI .i64)).length), (0, (v7.map (cI .i64))[(IntKind.i64.wrap (v1 + y1)).toNat]? = some ((cI .i64) (v7.getD (IntKind.i64.wrap (v1 + y1)).toNat 0))), (1, 0 ≤ v1 ∧ v1 < (v7.map (cI .i64)).length), (0, (v7.map (cI .i64))[v1.toNat]? = some ((cI .i64) (v7.getD v1.toNat 0)) ∧ (v7.map (cI .i64)).set v1.toNat ((cI .i64) (IntKind.i64.wrap ((2 : Int) + (v7.getD (IntKind.i64.wrap (v1 + y1)).toNat 0)))) = ((v7.set v1.toNat (IntKind.i64.wrap ((2 : Int) + (v7.getD (IntKind.i64.wrap (v1 + y1)).toNat 0)))).map (cI .i64)))] 0 (by kernel_rfl) (⟨own_idx (cI .i64) hp4, (idx_ok (d := 0) (cI .i64) hp4).2, own_idx (cI .i64) hp5, ⟨(idx_ok (d := 0) (cI .i64) hp5).2, set_ok (cI .i64) rfl⟩⟩) ?_
      obtain ⟨hp6, h⟩ := chk_ok h
      refine T_region [(5, { cs := (cI .i64) (v8.getD v1.toNat 0), es := some ((v8.set v1.toNat (IntKind.i64.wrap (0 - y1))).map (cI .i64)) })] [1, 5, 6, 7, 8] [] [(1, .d (.str a1)), (5, .own 3 1 ((v7.set v1.toNat (IntKind.i64.wrap ((2 : Int) + (v7.getD (IntKind.i64.wrap (v1 + y1)).toNat 0)))).map (cI .i64))), (6, .own 3 1 ((v8.set v1.toNat (IntKind.i64.wrap (0 - y1))).map (cI .i64))), (7, .d (.v (.int .i64 v1))), (8, .d (.v (.int .i64 y1)))] [(4, 0 ≤ v1 ∧ v1 < (v8.map (cI .i64)).length), (0, (v8.map (cI .i64))[v1.toNat]? = some ((cI .i64) (v8.getD v1.toNat 0)) ∧ (v8.map (cI .i64)).set v1.toNat ((cI .i64) (IntKind.i64.wrap (0 - y1))) = ((v8.set v1.toNat (IntKind.i64.wrap (0 - y1))).map (cI .i64)))] 0 (by kernel_rfl) (⟨own_idx (cI .i64) hp6, ⟨(idx_ok (d := 0) (cI .i64) hp6).2, set_ok (cI .i64) rfl⟩⟩) ?_
      refine T_joinc h (fun (p : (List Int) × (List Int)) => [(1, .d (.str a1)), (5, .own 3 1 (p.1.map (cI .i64))), (6, .own 3 1 (p.2.map (cI .i64))), (7, .d (.v (.int .i64 v1)))]) (fun s h => ?_) (fun s h => ?_)
      · refine T_region [] [1, 5, 6, 7, 49] [] [(1, .d (.str a1)), (5, .own 3 1 ((v7.set v1.toNat (IntKind.i64.wrap ((2 : Int) + (v7.getD (IntKind.i64.wrap (v1 + y1)).toNat 0)))).map (cI .i64))), (6, .own 3 1 ((v8.set v1.toNat (IntKind.i64.wrap (0 - y1))).map (cI .i64))), (7, .d (.v (.int .i64 v1))), (49, .d (.v (.bool (y1 == (1 : Int)))))] [] 2 (by kernel_rfl) (trivial) ?_
        refine T_cond (y1 == (1 : Int)) (by kernel_rfl) (fun hc => ?_) (fun hc => ?_)
        · have h := cond_tt hc h
          obtain ⟨hp7, h⟩ := chk_ok h
          obtain ⟨z3, hz1, h⟩ := lett_ok h
          obtain ⟨hp8, h⟩ := chk_ok h
          obtain ⟨hp9, h⟩ := chk_ok h
          obtain hs := Option.some.inj h; subst hs
          refine T_region_end [(8, { cs := (cI .i64) ((v7.set v1.toNat (IntKind.i64.wrap ((2 : Int) + (v7.getD (IntKind.i64.wrap (v1 + y1)).toNat 0)))).getD (IntKind.i64.wrap (v1 + (1 : Int))).toNat 0), rw := some (.d (.v (.int .i64 z3))) }), (11, { cs := (cI .i64) ((v7.set v1.toNat (IntKind.i64.wrap ((2 : Int) + (v7.getD (IntKind.i64.wrap (v1 + y1)).toNat 0)))).getD v1.toNat 0), es := some (((v7.set v1.toNat (IntKind.i64.wrap ((2 : Int) + (v7.getD (IntKind.i64.wrap (v1 + y1)).toNat 0)))).set v1.toNat (IntKind.i64.wrap ((2 : Int) + z3))).map (cI .i64)) }), (13, { cs := (cI .i64) ((v8.set v1.toNat (IntKind.i64.wrap (0 - y1))).getD v1.toNat 0), es := some (((v8.set v1.toNat (IntKind.i64.wrap (0 - y1))).set v1.toNat (1 : Int)).map (cI .i64)) })] [1, 5, 6, 7] [] [(1, .d (.str a1)), (5, .own 3 1 (((v7.set v1.toNat (IntKind.i64.wrap ((2 : Int) + (v7.getD (IntKind.i64.wrap (v1 + y1)).toNat 0)))).set v1.toNat (IntKind.i64.wrap ((2 : Int) + z3))).map (cI .i64))), (6, .own 3 1 (((v8.set v1.toNat (IntKind.i64.wrap (0 - y1))).set v1.toNat (1 : Int)).map (cI .i64))), (7, .d (.v (.int .i64 v1)))] [(7, 0 ≤ (IntKind.i64.wrap (v1 + (1 : Int))) ∧ (IntKind.i64.wrap (v1 + (1 : Int))) < ((v7.set v1.toNat (IntKind.i64.wrap ((2 : Int) + (v7.getD (IntKind.i64.wrap (v1 + y1)).toNat 0)))).map (cI .i64)).length), (0, (((v7.set v1.toNat (IntKind.i64.wrap ((2 : Int) + (v7.getD (IntKind.i64.wrap (v1 + y1)).toNat 0)))).map (cI .i64))[(IntKind.i64.wrap (v1 + (1 : Int))).toNat]? = some ((cI .i64) ((v7.set v1.toNat (IntKind.i64.wrap ((2 : Int) + (v7.getD (IntKind.i64.wrap (v1 + y1)).toNat 0)))).getD (IntKind.i64.wrap (v1 + (1 : Int))).toNat 0))) ∧ AV.d (.v (.int .i64 ((v7.set v1.toNat (IntKind.i64.wrap ((2 : Int) + (v7.getD (IntKind.i64.wrap (v1 + y1)).toNat 0)))).getD (IntKind.i64.wrap (v1 + (1 : Int))).toNat 0))) = .d (.v (.int .i64 z3))), (1, 0 ≤ v1 ∧ v1 < ((v7.set v1.toNat (IntKind.i64.wrap ((2 : Int) + (v7.getD (IntKind.i64.wrap (v1 + y1)).toNat 0)))).map (cI .i64)).length), (0, ((v7.set v1.toNat (IntKind.i64.wrap ((2 : Int) + (v7.getD (IntKind.i64.wrap (v1 + y1)).toNat 0)))).map (cI .i64))[v1.toNat]? = some ((cI .i64) ((v7.set v1.toNat (IntKind.i64.wrap ((2 : Int) + (v7.getD (IntKind.i64.wrap (v1 + y1)).toNat 0)))).getD v1.toNat 0)) ∧ ((v7.set v1.toNat (IntKind.i64.wrap ((2 : Int) + (v7.getD (IntKind.i64.wrap (v1 + y1)).toNat 0)))).map (cI .i64)).set v1.toNat ((cI .i64) (IntKind.i64.wrap ((2 : Int) + z3))) = (((v7.set v1.toNat (IntKind.i64.wrap ((2 : Int) + (v7.getD (IntKind.i64.wrap (v1 + y1)).toNat 0)))).set v1.toNat (IntKind.i64.wrap ((2 : Int) + z3))).map (cI .i64))), (0, 0 ≤ v1 ∧ v1 < ((v8.set v1.toNat (IntKind.i64.wrap (0 - y1))).map (cI .i64)).length), (0, ((v8.set v1.toNat (IntKind.i64.wrap (0 - y1))).map (cI .i64))[v1.toNat]? = some ((cI .i64) ((v8.set v1.toNat (IntKind.i64.wrap (0 - y1))).getD v1.toNat 0)) ∧ ((v8.set v1.toNat (IntKind.i64.wrap (0 - y1))).map (cI .i64)).set v1.toNat ((cI .i64) (1 : Int)) = (((v8.set v1.toNat (IntKind.i64.wrap (0 - y1))).set v1.toNat (1 : Int)).map (cI .i64)))] 0 (by kernel_rfl) (⟨own_idx (cI .i64) hp7, ⟨(idx_ok (d := 0) (cI .i64) hp7).2, (by subst hz1; rfl)⟩, own_idx (cI .i64) hp8, ⟨(idx_ok (d := 0) (cI .i64) hp8).2, set_ok (cI .i64) rfl⟩, own_idx (cI .i64) hp9, ⟨(idx_ok (d := 0) (cI .i64) hp9).2, set_ok (cI .i64) rfl⟩⟩) fun a w hm => then_norm (hm.co (cs := [.keep [1, 5, 6, 7]]) (by show _ = _; kernel_rfl))
        · have h := cond_ff hc h
          obtain hs := Option.some.inj h; subst hs
          refine T_skip fun a w hm => then_norm (hm.co (cs := [.keep [1, 5, 6, 7]]) (by show _ = _; kernel_rfl))
      · obtain ⟨v9, v10⟩ := s
        try dsimp only at h
        refine T_region [] [1, 5, 6, 7, 9] [] [(1, .d (.str a1)), (5, .own 3 1 (v9.map (cI .i64))), (6, .own 3 1 (v10.map (cI .i64))), (7, .d (.v (.int .i64 v1))), (9, .d (.v (.int .i64 (1 : Int))))] [] 1 (by kernel_rfl) (trivial) ?_
        refine T_joinct h (fun (p : (List Int) × (List Int)) => [(1, .d (.str a1)), (5, .own 3 1 (p.1.map (cI .i64))), (6, .own 3 1 (p.2.map (cI .i64))), (7, .d (.v (.int .i64 v1)))]) (fun s h => ?_) (fun s h => ?_)
        · refine T_co [.keep [1, 5, 6, 7, 9]] ((fun (p : (List Int) × (List Int) × Int) => [(1, .d (.str a1)), (5, .own 3 1 (p.1.map (cI .i64))), (6, .own 3 1 (p.2.1.map (cI .i64))), (7, .d (.v (.int .i64 v1))), (9, .d (.v (.int .i64 p.2.2)))]) (v9, v10, (1 : Int))) (by show _ = _; kernel_rfl) ?_
          refine T_block ?_
          refine T_loopF (ι := (List Int) × (List Int) × Int) (fun (p : (List Int) × (List Int) × Int) => [(1, .d (.str a1)), (5, .own 3 1 (p.1.map (cI .i64))), (6, .own 3 1 (p.2.1.map (cI .i64))), (7, .d (.v (.int .i64 v1))), (9, .d (.v (.int .i64 p.2.2)))]) (fun n p => filter_runs_encode_L2 F a1 v1 n p.1 p.2.1 p.2.2 = some s) (fun i hh => by simp [filter_runs_encode_L2] at hh) (fun n p h => ?_) F (v9, v10, (1 : Int)) h
          obtain ⟨v2, v3, v4⟩ := p
          have h : filter_runs_encode_L2 F a1 v1 (n + 1) v2 v3 v4 = some s := h
          rw [filter_runs_encode_L2] at h
          refine T_seqk ?_
          obtain ⟨z1, hz2, h⟩ := lett_ok h
          refine T_region [(9, { rw := some (.d (.v (.bool z1))) })] [1, 5, 6, 7, 9, 71] [] [(1, .d (.str a1)), (5, .own 3 1 (v2.map (cI .i64))), (6, .own 3 1 (v3.map (cI .i64))), (7, .d (.v (.int .i64 v1))), (9, .d (.v (.int .i64 v4))), (71, .d (.v (.bool z1)))] [(3, ((((decide (v4 ≤ (128 : Int))) == true) && true) = true → True)), (0, ((((decide (v4 ≤ (128 : Int))) == true) && true) = true → True)), (0, ((((decide (v4 ≤ (128 : Int))) == true) && true) = true → True)), (0, ((((decide (v4 ≤ (128 : Int))) == true) && true) = true → True)), (0, ((((decide (v4 ≤ (128 : Int))) == true) && true) = true → True)), (0, ((((decide (v4 ≤ (128 : Int))) == true) && true) = true → True)), (0, (True) ∧ AV.d (.v (.bool (bif (decide (v4 ≤ (128 : Int))) then (decide ((IntKind.i64.wrap (v1 + v4)) ≤ (a1.length : Int))) else false))) = .d (.v (.bool z1)))] 0 (by kernel_rfl) (⟨(fun hg => trivial), (fun hg => trivial), (fun hg => trivial), (fun hg => trivial), (fun hg => trivial), (fun hg => trivial), ⟨trivial, (by subst hz2; rfl)⟩⟩) ?_
          refine T_cond z1 (by kernel_rfl) (fun hc => ?_) (fun hc => ?_)
          · have h := cond_tt hc h
            refine T_skip fun a w hm => then_norm (((?_ : T Tryd.prog e 133 _ _ _) a w hm))
            refine T_joinc h (fun (p : (List Int) × (List Int)) => [(1, .d (.str a1)), (5, .own 3 1 (p.1.map (cI .i64))), (6, .own 3 1 (p.2.map (cI .i64))), (7, .d (.v (.int .i64 v1))), (9, .d (.v (.int .i64 v4)))]) (fun s h => ?_) (fun s h => ?_)
            · refine T_block ?_
              obtain ⟨hp10, h⟩ := chk_ok h
              obtain ⟨z2, hz3, h⟩ := lett_ok h
              refine T_region [(7, { cs := (cI .i64) (v2.getD (IntKind.i64.wrap (v1 + v4)).toNat 0) }), (8, { rw := some (.d (.v (.int .i64 z2))) })] [1, 5, 6, 7, 9, 10] [] [(1, .d (.str a1)), (5, .own 3 1 (v2.map (cI .i64))), (6, .own 3 1 (v3.map (cI .i64))), (7, .d (.v (.int .i64 v1))), (9, .d (.v (.int .i64 v4))), (10, .d (.v (.int .i64 z2)))] [(6, 0 ≤ (IntKind.i64.wrap (v1 + v4)) ∧ (IntKind.i64.wrap (v1 + v4)) < (v2.map (cI .i64)).length), (0, (v2.map (cI .i64))[(IntKind.i64.wrap (v1 + v4)).toNat]? = some ((cI .i64) (v2.getD (IntKind.i64.wrap (v1 + v4)).toNat 0))), (0, (True) ∧ AV.d (.v (.int .i64 (IntKind.i64.wrap ((IntKind.i64.wrap ((1 : Int) + v4)) + (v2.getD (IntKind.i64.wrap (v1 + v4)).toNat 0))))) = .d (.v (.int .i64 z2)))] 1 (by kernel_rfl) (⟨own_idx (cI .i64) hp10, (idx_ok (d := 0) (cI .i64) hp10).2, ⟨trivial, (by subst hz3; rfl)⟩⟩) ?_
              obtain ⟨hp11, h⟩ := chk_ok h
              refine T_region [(4, { cs := (cI .i64) (v2.getD v1.toNat 0) })] [1, 5, 6, 7, 9, 10, 88] [] [(1, .d (.str a1)), (5, .own 3 1 (v2.map (cI .i64))), (6, .own 3 1 (v3.map (cI .i64))), (7, .d (.v (.int .i64 v1))), (9, .d (.v (.int .i64 v4))), (10, .d (.v (.int .i64 z2))), (88, .d (.v (.bool (decide (z2 < (v2.getD v1.toNat 0))))))] [(3, 0 ≤ v1 ∧ v1 < (v2.map (cI .i64)).length), (0, (v2.map (cI .i64))[v1.toNat]? = some ((cI .i64) (v2.getD v1.toNat 0)))] 1 (by kernel_rfl) (⟨own_idx (cI .i64) hp11, (idx_ok (d := 0) (cI .i64) hp11).2⟩) ?_
              refine T_cond (decide (z2 < (v2.getD v1.toNat 0))) (by kernel_rfl) (fun hc => ?_) (fun hc => ?_)
              · have h := cond_tt hc h
                obtain ⟨hp12, h⟩ := chk_ok h
                obtain ⟨hp13, h⟩ := chk_ok h
                obtain hs := Option.some.inj h; subst hs
                refine T_region_end [(7, { cs := (cI .i64) (v2.getD v1.toNat 0), es := some ((v2.set v1.toNat z2).map (cI .i64)) }), (9, { cs := (cI .i64) (v3.getD v1.toNat 0), es := some ((v3.set v1.toNat v4).map (cI .i64)) })] [1, 5, 6, 7, 9] [] [(1, .d (.str a1)), (5, .own 3 1 ((v2.set v1.toNat z2).map (cI .i64))), (6, .own 3 1 ((v3.set v1.toNat v4).map (cI .i64))), (7, .d (.v (.int .i64 v1))), (9, .d (.v (.int .i64 v4)))] [(6, 0 ≤ v1 ∧ v1 < (v2.map (cI .i64)).length), (0, (v2.map (cI .i64))[v1.toNat]? = some ((cI .i64) (v2.getD v1.toNat 0)) ∧ (v2.map (cI .i64)).set v1.toNat ((cI .i64) z2) = ((v2.set v1.toNat z2).map (cI .i64))), (0, 0 ≤ v1 ∧ v1 < (v3.map (cI .i64)).length), (0, (v3.map (cI .i64))[v1.toNat]? = some ((cI .i64) (v3.getD v1.toNat 0)) ∧ (v3.map (cI .i64)).set v1.toNat ((cI .i64) v4) = ((v3.set v1.toNat v4).map (cI .i64)))] 0 (by kernel_rfl) (⟨own_idx (cI .i64) hp12, ⟨(idx_ok (d := 0) (cI .i64) hp12).2, set_ok (cI .i64) rfl⟩, own_idx (cI .i64) hp13, ⟨(idx_ok (d := 0) (cI .i64) hp13).2, set_ok (cI .i64) rfl⟩⟩) fun a w hm => inBlock_norm (then_norm (hm.co (cs := [.keep [1, 5, 6, 7, 9]]) (by show _ = _; kernel_rfl)))
              · have h := cond_ff hc h
                obtain hs := Option.some.inj h; subst hs
                refine T_skip fun a w hm => inBlock_norm (then_norm (hm.co (cs := [.keep [1, 5, 6, 7, 9]]) (by show _ = _; kernel_rfl)))
            · obtain ⟨v5, v6⟩ := s
              try dsimp only at h
              refine T_region_end [] [1, 5, 6, 7, 9] [] [(1, .d (.str a1)), (5, .own 3 1 (v5.map (cI .i64))), (6, .own 3 1 (v6.map (cI .i64))), (7, .d (.v (.int .i64 v1))), (9, .d (.v (.int .i64 (IntKind.i64.wrap (v4 + (1 : Int))))))] [] 3 (by kernel_rfl) (trivial) fun a w hm => then_norm (⟨(v5, v6, IntKind.i64.wrap (v4 + (1 : Int))), h, hm.co (cs := [.keep [1, 5, 6, 7, 9]]) (by show _ = _; kernel_rfl)⟩)
          · have h := cond_ff hc h
            obtain hs := Option.some.inj h; subst hs
            refine T_exit fun a w hm => then_exit (then_exit (inBlock_exit (then_norm (hm.co (cs := [.keep [1, 5, 6, 7]]) (by show _ = _; kernel_rfl)))))
        · obtain ⟨v11, v12⟩ := s
          try dsimp only at h
          refine fun a w hm => inBlock_norm (then_norm (((?_ : T Tryd.prog e 133 _ _ _) a w hm)))
          refine T_region_end [] [1, 5, 6, 7] [] [(1, .d (.str a1)), (5, .own 3 1 (v11.map (cI .i64))), (6, .own 3 1 (v12.map (cI .i64))), (7, .d (.v (.int .i64 (IntKind.i64.wrap (v1 - (1 : Int))))))] [] 3 (by kernel_rfl) (trivial) fun a w hm => then_norm (⟨(v11, v12, IntKind.i64.wrap (v1 - (1 : Int))), h, hm.co (cs := [.keep [1, 5, 6, 7]]) (by show _ = _; kernel_rfl)⟩)
    · have h := cond_ff hc h
      obtain hs := Option.some.inj h; subst hs
      refine T_exit fun a w hm => then_exit (then_exit (inBlock_exit (then_norm (hm.co (cs := [.keep [1, 6]]) (by show _ = _; kernel_rfl)))))
  · skip
    refine fun a w hm => then_norm (((?_ : T Tryd.prog e 133 _ _ _) a w hm))
    refine T_region [(0, { slfs := [(0, 0)] })] [1, 6, 11] [] [(1, .d (.str a1)), (6, .own 3 1 (v13.map (cI .i64))), (11, .box [.slf 0 89, .own 5 1 ([].map cU)])] [] 1 (by kernel_rfl) (trivial) ?_
    refine T_seqk ?_
    refine T_region [] [1, 6, 11, 12] [] [(1, .d (.str a1)), (6, .own 3 1 (v13.map (cI .i64))), (11, .box [.slf 0 89, .own 5 1 ([].map cU)]), (12, .d (.v (.int .i64 (0 : Int))))] [] 1 (by kernel_rfl) (trivial) ?_
    refine T_joinct h (fun (p : (List UInt8)) => [(11, .box [.slf 0 89, .own 5 1 (p.map cU)])]) (fun s h => ?_) (fun v16 h => ?_)
    · refine T_co [.keep [1, 6, 11, 12]] ((fun (p : (List UInt8) × Int) => [(1, .d (.str a1)), (6, .own 3 1 (v13.map (cI .i64))), (11, .box [.slf 0 89, .own 5 1 (p.1.map cU)]), (12, .d (.v (.int .i64 p.2)))]) ([], (0 : Int))) (by show _ = _; kernel_rfl) ?_
      refine T_block ?_
      refine T_loopF (ι := (List UInt8) × Int) (fun (p : (List UInt8) × Int) => [(1, .d (.str a1)), (6, .own 3 1 (v13.map (cI .i64))), (11, .box [.slf 0 89, .own 5 1 (p.1.map cU)]), (12, .d (.v (.int .i64 p.2)))]) (fun n p => filter_runs_encode_L4 F a1 v13 n p.1 p.2 = some s) (fun i hh => by simp [filter_runs_encode_L4] at hh) (fun n p h => ?_) F ([], (0 : Int)) h
      obtain ⟨v14, v15⟩ := p
      have h : filter_runs_encode_L4 F a1 v13 (n + 1) v14 v15 = some s := h
      rw [filter_runs_encode_L4] at h
      refine T_seqk ?_
      refine T_region [] [1, 6, 11, 12, 100] [] [(1, .d (.str a1)), (6, .own 3 1 (v13.map (cI .i64))), (11, .box [.slf 0 89, .own 5 1 (v14.map cU)]), (12, .d (.v (.int .i64 v15))), (100, .d (.v (.bool (decide (v15 < (a1.length : Int))))))] [] 4 (by kernel_rfl) (trivial) ?_
      refine T_cond (decide (v15 < (a1.length : Int))) (by kernel_rfl) (fun hc => ?_) (fun hc => ?_)
      · have h := cond_tt hc h
        refine T_skip fun a w hm => then_norm (((?_ : T Tryd.prog e 133 _ _ _) a w hm))
        refine T_block ?_
        obtain ⟨hp14, h⟩ := chk_ok h
        refine T_region [(3, { cs := (cI .i64) (v13.getD v15.toNat 0) })] [1, 6, 11, 12, 13] [] [(1, .d (.str a1)), (6, .own 3 1 (v13.map (cI .i64))), (11, .box [.slf 0 89, .own 5 1 (v14.map cU)]), (12, .d (.v (.int .i64 v15))), (13, .d (.v (.int .i64 (v13.getD v15.toNat 0))))] [(2, 0 ≤ v15 ∧ v15 < (v13.map (cI .i64)).length), (0, (v13.map (cI .i64))[v15.toNat]? = some ((cI .i64) (v13.getD v15.toNat 0)))] 1 (by kernel_rfl) (⟨own_idx (cI .i64) hp14, (idx_ok (d := 0) (cI .i64) hp14).2⟩) ?_
        refine T_seqk ?_
        refine T_region [] [1, 6, 11, 12, 13, 106] [] [(1, .d (.str a1)), (6, .own 3 1 (v13.map (cI .i64))), (11, .box [.slf 0 89, .own 5 1 (v14.map cU)]), (12, .d (.v (.int .i64 v15))), (13, .d (.v (.int .i64 (v13.getD v15.toNat 0)))), (106, .d (.v (.bool (decide ((v13.getD v15.toNat 0) < (0 : Int))))))] [] 2 (by kernel_rfl) (trivial) ?_
        refine T_cond (decide ((v13.getD v15.toNat 0) < (0 : Int))) (by kernel_rfl) (fun hc => ?_) (fun hc => ?_)
        · have h := cond_tt hc h
          obtain ⟨y2, hy2, h⟩ := call_ok h
          refine T_region [(3, { res := .d (.v .nilIface), vout := [.box [.slf 0 89, .own 5 1 (y2.2.map cU)]], xs := [11] })] [1, 6, 11, 12, 13] [] [(1, .d (.str a1)), (6, .own 3 1 (v13.map (cI .i64))), (11, .box [.slf 0 89, .own 5 1 (y2.2.map cU)]), (12, .d (.v (.int .i64 v15))), (13, .d (.v (.int .i64 (v13.getD v15.toNat 0))))] [(3, ACall Tryd.prog 89 [.bp 1000000 0, .d (.v (.int .u8 (IntKind.u8.wrap (IntKind.i64.wrap ((257 : Int) + (v13.getD v15.toNat 0))))))] [.box [.slf 0 89, .own 5 1 (v14.map cU)]] (.d (.v .nilIface)) [.box [.slf 0 89, .own 5 1 (y2.2.map cU)]])] 0 (by kernel_rfl) (strings_Builder_WriteByte_ok hy2) ?_
          obtain ⟨hp15, h⟩ := chk_ok h
          obtain ⟨y3, hy3, h⟩ := call_ok h
          refine T_region [(3, { res := .d (.v .nilIface), vout := [.box [.slf 0 89, .own 5 1 (y3.2.map cU)]], xs := [11] })] [1, 6, 11, 12, 13] [] [(1, .d (.str a1)), (6, .own 3 1 (v13.map (cI .i64))), (11, .box [.slf 0 89, .own 5 1 (y3.2.map cU)]), (12, .d (.v (.int .i64 v15))), (13, .d (.v (.int .i64 (v13.getD v15.toNat 0))))] [(2, 0 ≤ v15 ∧ v15 < a1.length), (0, ACall Tryd.prog 89 [.bp 1000000 0, .d (.v (.int .u8 ((a1.getD v15.toNat 0).toNat : Int)))] [.box [.slf 0 89, .own 5 1 (y2.2.map cU)]] (.d (.v .nilIface)) [.box [.slf 0 89, .own 5 1 (y3.2.map cU)]])] 0 (by kernel_rfl) (⟨hp15, strings_Builder_WriteByte_ok hy3⟩) ?_
          refine T_region [] [1, 6, 11, 12] [] [(1, .d (.str a1)), (6, .own 3 1 (v13.map (cI .i64))), (11, .box [.slf 0 89, .own 5 1 (y3.2.map cU)]), (12, .d (.v (.int .i64 (IntKind.i64.wrap (v15 - (v13.getD v15.toNat 0))))))] [] 4 (by kernel_rfl) (trivial) ?_
          refine T_exit fun a w hm => then_exit (inBlock_exit (then_norm (⟨(y3.2, IntKind.i64.wrap (v15 - (v13.getD v15.toNat 0))), h, hm.co (cs := [.keep [1, 6, 11, 12]]) (by show _ = _; kernel_rfl)⟩)))
        · have h := cond_ff hc h
          refine T_skip fun a w hm => then_norm (((?_ : T Tryd.prog e 133 _ _ _) a w hm))
          obtain ⟨y4, hy4, h⟩ := call_ok h
          refine T_region [(3, { res := .d (.v .nilIface), vout := [.box [.slf 0 89, .own 5 1 (y4.2.map cU)]], xs := [11] })] [1, 6, 11, 12, 13] [] [(1, .d (.str a1)), (6, .own 3 1 (v13.map (cI .i64))), (11, .box [.slf 0 89, .own 5 1 (y4.2.map cU)]), (12, .d (.v (.int .i64 v15))), (13, .d (.v (.int .i64 (v13.getD v15.toNat 0))))] [(3, ACall Tryd.prog 89 [.bp 1000000 0, .d (.v (.int .u8 (IntKind.u8.wrap (IntKind.i64.wrap ((v13.getD v15.toNat 0) - (1 : Int))))))] [.box [.slf 0 89, .own 5 1 (v14.map cU)]] (.d (.v .nilIface)) [.box [.slf 0 89, .own 5 1 (y4.2.map cU)]])] 0 (by kernel_rfl) (strings_Builder_WriteByte_ok hy4) ?_
          obtain ⟨hp16, h⟩ := chk_ok h
          obtain ⟨z4, hz4, h⟩ := lett_ok h
          obtain ⟨y5, hy5, h⟩ := call_ok h
          refine T_region [(5, { rw := some (.d (.str z4)) }), (6, { res := .tup [.d (.v (.int .i64 y5.1)), .d (.v .nilIface)], vout := [.box [.slf 0 89, .own 5 1 (y5.2.2.map cU)]], xs := [11] })] [1, 6, 11, 12, 13] [] [(1, .d (.str a1)), (6, .own 3 1 (v13.map (cI .i64))), (11, .box [.slf 0 89, .own 5 1 (y5.2.2.map cU)]), (12, .d (.v (.int .i64 v15))), (13, .d (.v (.int .i64 (v13.getD v15.toNat 0))))] [(5, (0 ≤ v15 ∧ v15 ≤ (IntKind.i64.wrap (v15 + (v13.getD v15.toNat 0))) ∧ (IntKind.i64.wrap (v15 + (v13.getD v15.toNat 0))) ≤ (a1.length : Int)) ∧ AV.d (.str ((a1.drop v15.toNat).take ((IntKind.i64.wrap (v15 + (v13.getD v15.toNat 0))).toNat - v15.toNat))) = .d (.str z4)), (0, ACall Tryd.prog 90 [.bp 1000000 0, .d (.str z4)] [.box [.slf 0 89, .own 5 1 (y4.2.map cU)]] (.tup [.d (.v (.int .i64 y5.1)), .d (.v .nilIface)]) [.box [.slf 0 89, .own 5 1 (y5.2.2.map cU)]])] 0 (by kernel_rfl) (⟨⟨hp16, (by subst hz4; rfl)⟩, strings_Builder_WriteString_ok hy5⟩) ?_
          refine T_region_end [] [1, 6, 11, 12] [] [(1, .d (.str a1)), (6, .own 3 1 (v13.map (cI .i64))), (11, .box [.slf 0 89, .own 5 1 (y5.2.2.map cU)]), (12, .d (.v (.int .i64 (IntKind.i64.wrap (v15 + (v13.getD v15.toNat 0))))))] [] 4 (by kernel_rfl) (trivial) fun a w hm => inBlock_norm (then_norm (⟨(y5.2.2, IntKind.i64.wrap (v15 + (v13.getD v15.toNat 0))), h, hm.co (cs := [.keep [1, 6, 11, 12]]) (by show _ = _; kernel_rfl)⟩))
      · have h := cond_ff hc h
        obtain hs := Option.some.inj h; subst hs
        refine T_exit fun a w hm => then_exit (then_exit (inBlock_exit (then_norm (hm.co (cs := [.keep [11]]) (by show _ = _; kernel_rfl)))))
    · skip
      refine fun a w hm => then_norm (((?_ : T Tryd.prog e 133 _ _ _) a w hm))
      obtain ⟨hp17, h⟩ := chk_ok h
      refine T_region [(0, { xs := [11], vout := [.box [.slf 0 89, .junk]], res := .d (.str v16) })] [4] [] [(4, .d (.str v16))] [(0, ACall Tryd.prog 67 [.bp 1000000 0] [.box [.slf 0 89, .own 5 1 (v16.map cU)]] (.d (.str v16)) [.box [.slf 0 89, .junk]])] 1 (by kernel_rfl) (b_String (l := v16) hp17 (by kernel_rfl) (by kernel_rfl)) ?_
      obtain hs := Option.some.inj h; subst hs
      refine T_ret fun a w hm => T_return (fr' := [(4, .d (.str v16))]) [4] (by kernel_rfl) [.keep [4]] (by kernel_rfl) (by kernel_rfl) (by kernel_rfl) (by show _ = _; kernel_rfl) (by exact trivial) a w hm

theorem filter_rows_encode_ok {F : Nat} {a0 : S_filter_rows} {a1 : List UInt8} {r : (List UInt8)} (h : filter_rows_encode F a0 a1 = some r) : ACall Tryd.prog 200 [.agg (cS_filter_rows a0), .d (.str a1)] [] (.d (.str r)) [] := by
  rw [filter_rows_encode] at h
  refine ACall.intro (N := 33) Tryd.func200 rfl rfl rfl rfl rfl fun e => ?_
  refine T_region [] [1, 2] [] [(1, .d (.str a1)), (2, .box [.d (.v (.int .i64 a0.f0))])] [] 2 (by kernel_rfl) (trivial) ?_
  refine T_region [(1, { es := some (a1.map cU) })] [2, 5] [] [(2, .box [.d (.v (.int .i64 a0.f0))]), (5, .own 5 1 (a1.map cU))] [(1, byteCells a1 = (a1.map cU))] 1 (by kernel_rfl) (rfl) ?_
  refine T_seqk ?_
  refine T_region [(1, { rw := some (.d (.v (.int .i64 (a1.length : Int)))) })] [2, 5, 6] [] [(2, .box [.d (.v (.int .i64 a0.f0))]), (5, .own 5 1 (a1.map cU)), (6, .d (.v (.int .i64 (IntKind.i64.wrap ((a1.length : Int) - (1 : Int))))))] [(1, True ∧ AV.d (.v (.int .i64 ((a1.map cU).length : Int))) = .d (.v (.int .i64 (a1.length : Int))))] 2 (by kernel_rfl) (len_ok cU) ?_
  refine T_joinct h (fun (p : (List UInt8)) => [(5, .own 5 1 (p.map cU))]) (fun s h => ?_) (fun v3 h => ?_)
  · refine T_co [.keep [2, 5, 6]] ((fun (p : (List UInt8) × Int) => [(2, .box [.d (.v (.int .i64 a0.f0))]), (5, .own 5 1 (p.1.map cU)), (6, .d (.v (.int .i64 p.2)))]) (a1, IntKind.i64.wrap ((a1.length : Int) - (1 : Int)))) (by show _ = _; kernel_rfl) ?_
    refine T_block ?_
    refine T_loopF (ι := (List UInt8) × Int) (fun (p : (List UInt8) × Int) => [(2, .box [.d (.v (.int .i64 a0.f0))]), (5, .own 5 1 (p.1.map cU)), (6, .d (.v (.int .i64 p.2)))]) (fun n p => filter_rows_encode_L0 F a0 n p.1 p.2 = some s) (fun i hh => by simp [filter_rows_encode_L0] at hh) (fun n p h => ?_) F (a1, IntKind.i64.wrap ((a1.length : Int) - (1 : Int))) h
    obtain ⟨v1, v2⟩ := p
    have h : filter_rows_encode_L0 F a0 (n + 1) v1 v2 = some s := h
    rw [filter_rows_encode_L0] at h
    refine T_seqk ?_
    refine T_region [] [2, 5, 6, 15] [] [(2, .box [.d (.v (.int .i64 a0.f0))]), (5, .own 5 1 (v1.map cU)), (6, .d (.v (.int .i64 v2))), (15, .d (.v (.bool (decide (v2 ≥ a0.f0)))))] [] 4 (by kernel_rfl) (trivial) ?_
    refine T_cond (decide (v2 ≥ a0.f0)) (by kernel_rfl) (fun hc => ?_) (fun hc => ?_)
    · have h := cond_tt hc h
      refine T_skip fun a w hm => then_norm (((?_ : T Tryd.prog e 33 _ _ _) a w hm))
      refine T_seqk ?_
      refine T_block ?_
      obtain ⟨hp1, h⟩ := chk_ok h
      obtain ⟨hp2, h⟩ := chk_ok h
      obtain ⟨z1, hz1, h⟩ := lett_ok h
      obtain ⟨hp3, h⟩ := chk_ok h
      obtain ⟨hp4, h⟩ := chk_ok h
      refine T_drawS_end mixed 13 [(3, { cs := cU (v1.getD v2.toNat 0) }), (10, { cs := cU (v1.getD (IntKind.i64.wrap (v2 - a0.f0)).toNat 0) }), (11, { rw := some (.d (.v (.int .u8 z1))) }), (13, { cs := cU (v1.getD v2.toNat 0), es := some ((v1.set v2.toNat (UInt8.ofNat z1.toNat)).map cU) })] [2, 5, 6] [] [(2, .box [.d (.v (.int .i64 a0.f0))]), (5, .own 5 1 ((v1.set v2.toNat (UInt8.ofNat z1.toNat)).map cU)), (6, .d (.v (.int .i64 v2)))] [(2, 0 ≤ v2 ∧ v2 < (v1.map cU).length), (0, (v1.map cU)[v2.toNat]? = some (cU (v1.getD v2.toNat 0))), (5, 0 ≤ (IntKind.i64.wrap (v2 - a0.f0)) ∧ (IntKind.i64.wrap (v2 - a0.f0)) < (v1.map cU).length), (0, (v1.map cU)[(IntKind.i64.wrap (v2 - a0.f0)).toNat]? = some (cU (v1.getD (IntKind.i64.wrap (v2 - a0.f0)).toNat 0))), (0, (True) ∧ AV.d (.v (.int .u8 (IntKind.u8.wrap (((v1.getD v2.toNat 0).toNat : Int) - ((v1.getD (IntKind.i64.wrap (v2 - a0.f0)).toNat 0).toNat : Int))))) = .d (.v (.int .u8 z1))), (0, 0 ≤ v2 ∧ v2 < (v1.map cU).length), (0, (v1.map cU)[v2.toNat]? = some (cU (v1.getD v2.toNat 0)) ∧ (v1.map cU).set v2.toNat ([Dat.v (.int .u8 z1)]) = ((v1.set v2.toNat (UInt8.ofNat z1.toNat)).map cU))] 0 (by kernel_rfl) (⟨own_idx cU hp1, (idx_ok (d := 0) cU hp1).2, own_idx cU hp2, (idx_ok (d := 0) cU hp2).2, ⟨trivial, (by subst hz1; rfl)⟩, own_idx cU hp3, ⟨(idx_ok (d := 0) cU hp3).2, set_ok cU (cU_ofInt hp4)⟩⟩) fun a w hm => inBlock_norm (then_norm (((?_ : T Tryd.prog e 33 _ _ _) a w hm)))
      refine T_region_end [] [2, 5, 6] [] [(2, .box [.d (.v (.int .i64 a0.f0))]), (5, .own 5 1 ((v1.set v2.toNat (UInt8.ofNat z1.toNat)).map cU)), (6, .d (.v (.int .i64 (IntKind.i64.wrap (v2 - (1 : Int))))))] [] 3 (by kernel_rfl) (trivial) fun a w hm => then_norm (⟨((v1.set v2.toNat (UInt8.ofNat z1.toNat)), IntKind.i64.wrap (v2 - (1 : Int))), h, hm.co (cs := [.keep [2, 5, 6]]) (by show _ = _; kernel_rfl)⟩)
    · have h := cond_ff hc h
      obtain hs := Option.some.inj h; subst hs
      refine T_exit fun a w hm => then_exit (then_exit (inBlock_exit (then_norm (hm.co (cs := [.keep [5]]) (by show _ = _; kernel_rfl)))))
  · skip
    refine fun a w hm => then_norm (((?_ : T Tryd.prog e 33 _ _ _) a w hm))
    refine T_region [(1, { cs := [.str v3] })] [4] [] [(4, .d (.str v3))] [(1, (v3.map cU) = byteCells v3)] 1 (by kernel_rfl) (rfl) ?_
    obtain hs := Option.some.inj h; subst hs
    refine T_ret fun a w hm => T_return (fr' := [(4, .d (.str v3))]) [4] (by kernel_rfl) [.keep [4]] (by kernel_rfl) (by kernel_rfl) (by kernel_rfl) (by show _ = _; kernel_rfl) (by exact trivial) a w hm

theorem filter_text_encode_ok {F : Nat} {a0 : S_filter_copies} {a1 : List UInt8} {r : (List UInt8)} (h : filter_text_encode F a0 a1 = some r) : ACall Tryd.prog 207 [.agg (cS_filter_copies a0), .d (.str a1)] [] (.d (.str r)) [] := by
  rw [filter_text_encode] at h
  refine ACall.intro (N := 21) Tryd.func207 rfl rfl rfl rfl rfl fun e => ?_
  refine T_region [] [1] [] [(1, .d (.str a1))] [] 2 (by kernel_rfl) (trivial) ?_
  refine T_region [(0, { slfs := [(0, 0)] })] [1, 5] [] [(1, .d (.str a1)), (5, .box [.slf 0 89, .own 5 1 ([].map cU)])] [] 1 (by kernel_rfl) (trivial) ?_
  refine T_joinc h (fun (p : (List UInt8)) => [(5, .box [.slf 0 89, .own 5 1 (p.map cU)])]) (fun s h => ?_) (fun v3 h => ?_)
  · refine T_co [.keep [1, 5]] ((fun (p : (List UInt8) × (List UInt8)) => [(1, .d (.str p.1)), (5, .box [.slf 0 89, .own 5 1 (p.2.map cU)])]) (a1, [])) (by show _ = _; kernel_rfl) ?_
    refine T_block ?_
    refine T_loopF (ι := (List UInt8) × (List UInt8)) (fun (p : (List UInt8) × (List UInt8)) => [(1, .d (.str p.1)), (5, .box [.slf 0 89, .own 5 1 (p.2.map cU)])]) (fun n p => filter_text_encode_L0 F n p.1 p.2 = some s) (fun i hh => by simp [filter_text_encode_L0] at hh) (fun n p h => ?_) F (a1, []) h
    obtain ⟨v1, v2⟩ := p
    have h : filter_text_encode_L0 F (n + 1) v1 v2 = some s := h
    rw [filter_text_encode_L0] at h
    refine T_seqk ?_
    refine T_region [] [1, 5, 8] [] [(1, .d (.str v1)), (5, .box [.slf 0 89, .own 5 1 (v2.map cU)]), (8, .d (.v (.bool (!(v1 == [])))))] [] 2 (by kernel_rfl) (trivial) ?_
    refine T_cond (!(v1 == [])) (by kernel_rfl) (fun hc => ?_) (fun hc => ?_)
    · have h := cond_tt hc h
      refine T_skip fun a w hm => then_norm (((?_ : T Tryd.prog e 21 _ _ _) a w hm))
      refine T_block ?_
      refine T_region [] [1, 5, 6] [] [(1, .d (.str v1)), (5, .box [.slf 0 89, .own 5 1 (v2.map cU)]), (6, .d (.v (.int .i64 (if (4 : Int) < (v1.length : Int) then (4 : Int) else (v1.length : Int)))))] [] 4 (by kernel_rfl) (trivial) ?_
      obtain ⟨hp1, h⟩ := chk_ok h
      obtain ⟨z1, hz1, h⟩ := lett_ok h
      obtain ⟨y1, hy1, h⟩ := call_ok h
      obtain ⟨y2, hy2, h⟩ := call_ok h
      refine T_region [(2, { rw := some (.d (.str z1)) }), (3, { res := .d (.str y1) }), (4, { res := .tup [.d (.v (.int .i64 y2.1)), .d (.v .nilIface)], vout := [.box [.slf 0 89, .own 5 1 (y2.2.2.map cU)]], xs := [5] })] [1, 5, 6] [] [(1, .d (.str v1)), (5, .box [.slf 0 89, .own 5 1 (y2.2.2.map cU)]), (6, .d (.v (.int .i64 (if (4 : Int) < (v1.length : Int) then (4 : Int) else (v1.length : Int)))))] [(2, (0 ≤ (0 : Int) ∧ (0 : Int) ≤ (if (4 : Int) < (v1.length : Int) then (4 : Int) else (v1.length : Int)) ∧ (if (4 : Int) < (v1.length : Int) then (4 : Int) else (v1.length : Int)) ≤ (v1.length : Int)) ∧ AV.d (.str ((v1.drop (0 : Int).toNat).take ((if (4 : Int) < (v1.length : Int) then (4 : Int) else (v1.length : Int)).toNat - (0 : Int).toNat))) = .d (.str z1)), (0, ACall Tryd.prog 209 [.d (.str z1)] [] (.d (.str y1)) []), (0, ACall Tryd.prog 90 [.bp 1000000 0, .d (.str y1)] [.box [.slf 0 89, .own 5 1 (v2.map cU)]] (.tup [.d (.v (.int .i64 y2.1)), .d (.v .nilIface)]) [.box [.slf 0 89, .own 5 1 (y2.2.2.map cU)]])] 0 (by kernel_rfl) (⟨⟨hp1, (by subst hz1; rfl)⟩, filter_group_ok hy1, strings_Builder_WriteString_ok hy2⟩) ?_
      obtain ⟨hp2, h⟩ := chk_ok h
      obtain ⟨z2, hz2, h⟩ := lett_ok h
      refine T_region_end [(2, { rw := some (.d (.str z2)) })] [1, 5] [] [(1, .d (.str z2)), (5, .box [.slf 0 89, .own 5 1 (y2.2.2.map cU)])] [(2, (0 ≤ (if (4 : Int) < (v1.length : Int) then (4 : Int) else (v1.length : Int)) ∧ (if (4 : Int) < (v1.length : Int) then (4 : Int) else (v1.length : Int)) ≤ (v1.length : Int) ∧ (v1.length : Int) ≤ (v1.length : Int)) ∧ AV.d (.str ((v1.drop (if (4 : Int) < (v1.length : Int) then (4 : Int) else (v1.length : Int)).toNat).take ((v1.length : Int).toNat - (if (4 : Int) < (v1.length : Int) then (4 : Int) else (v1.length : Int)).toNat))) = .d (.str z2))] 1 (by kernel_rfl) (⟨hp2, (by subst hz2; rfl)⟩) fun a w hm => inBlock_norm (then_norm (⟨(z2, y2.2.2), h, hm.co (cs := [.keep [1, 5]]) (by show _ = _; kernel_rfl)⟩))
    · have h := cond_ff hc h
      obtain hs := Option.some.inj h; subst hs
      refine T_exit fun a w hm => then_exit (then_exit (inBlock_exit (then_norm (hm.co (cs := [.keep [5]]) (by show _ = _; kernel_rfl)))))
  · skip
    obtain ⟨hp3, h⟩ := chk_ok h
    refine T_region [(0, { xs := [5], vout := [.box [.slf 0 89, .junk]], res := .d (.str v3) })] [4] [] [(4, .d (.str v3))] [(0, ACall Tryd.prog 67 [.bp 1000000 0] [.box [.slf 0 89, .own 5 1 (v3.map cU)]] (.d (.str v3)) [.box [.slf 0 89, .junk]])] 1 (by kernel_rfl) (b_String (l := v3) hp3 (by kernel_rfl) (by kernel_rfl)) ?_
    obtain hs := Option.some.inj h; subst hs
    refine T_ret fun a w hm => T_return (fr' := [(4, .d (.str v3))]) [4] (by kernel_rfl) [.keep [4]] (by kernel_rfl) (by kernel_rfl) (by kernel_rfl) (by show _ = _; kernel_rfl) (by exact trivial) a w hm

theorem I_filter_coding_encode_ok {F : Nat} {x : I_filter_coding} {a1 : List UInt8} {r : (List UInt8)} (h : I_filter_coding_encode F x a1 = some r) : ICall Tryd.prog "printworks/filter.encode" [.d (.v (vI_filter_coding x)), .d (.str a1)] [] (.d (.str r)) [] := by
  cases x with
  | nil => exact absurd h (by simp [I_filter_coding_encode])
  | k_runs x => exact ⟨111, _, _, 197, rfl, (fun _ h => by cases h), by kernel_rfl, filter_runs_encode_ok (a0 := x) h⟩
  | k_rows x => exact ⟨113, _, _, 200, rfl, (List.forall_mem_cons.2 ⟨rfl, fun _ h => by cases h⟩), by kernel_rfl, filter_rows_encode_ok (a0 := x) h⟩
  | k_copies x => exact absurd h (by simp [I_filter_coding_encode])
  | k_text x => exact ⟨115, _, _, 207, rfl, (fun _ h => by cases h), by kernel_rfl, filter_text_encode_ok (a0 := x) h⟩

theorem filter_Encode_ok {F : Nat} {a0 : List S_FilterStep} {a1 : List UInt8} {r : (List UInt8) × Int} (h : filter_Encode F a0 a1 = some r) : ACall Tryd.prog 26 [.d (.sl 2 (a0.map cS_FilterStep)), .d (.str a1)] [] (.tup [.d (.str r.1), .d (.v (.int .i64 r.2))]) [] := by
  rw [filter_Encode] at h
  refine ACall.intro (N := 30) Tryd.func26 rfl rfl rfl rfl rfl fun e => ?_
  refine T_region [] [0, 1] [] [(0, .d (.sl 2 (a0.map cS_FilterStep))), (1, .d (.str a1))] [] 2 (by kernel_rfl) (trivial) ?_
  refine T_seqk ?_
  obtain ⟨y3, hy1, h⟩ := call_ok h
  refine T_region [(1, { res := .d (.v (.int .i64 y3)) })] [0, 1, 6] [] [(0, .d (.sl 2 (a0.map cS_FilterStep))), (1, .d (.str a1)), (6, .d (.v (.int .i64 y3)))] [(1, ACall Tryd.prog 18 [.d (.sl 2 (a0.map cS_FilterStep))] [] (.d (.v (.int .i64 y3))) [])] 1 (by kernel_rfl) (filter_Check_ok hy1) ?_
  refine T_region [] [0, 1, 6, 12] [] [(0, .d (.sl 2 (a0.map cS_FilterStep))), (1, .d (.str a1)), (6, .d (.v (.int .i64 y3))), (12, .d (.v (.bool (y3 != (0 : Int)))))] [] 2 (by kernel_rfl) (trivial) ?_
  refine T_cond (y3 != (0 : Int)) (by kernel_rfl) (fun hc => ?_) (fun hc => ?_)
  · have h := cond_tt hc h
    refine T_region [] [4, 5] [] [(4, .d (.str [])), (5, .d (.v (.int .i64 y3)))] [] 3 (by kernel_rfl) (trivial) ?_
    obtain hs := Option.some.inj h; subst hs
    refine T_ret fun a w hm => then_ret (T_return (fr' := [(4, .d (.str [])), (5, .d (.v (.int .i64 y3)))]) [4, 5] (by kernel_rfl) [.keep [4, 5]] (by kernel_rfl) (by kernel_rfl) (by kernel_rfl) (by show _ = _; kernel_rfl) (by exact trivial) a w hm)
  · have h := cond_ff hc h
    refine T_skip fun a w hm => then_norm (((?_ : T Tryd.prog e 30 _ _ _) a w hm))
    refine T_seqk ?_
    refine T_region [] [0, 1, 16] [] [(0, .d (.sl 2 (a0.map cS_FilterStep))), (1, .d (.str a1)), (16, .d (.v (.bool (decide ((a1.length : Int) > (16384 : Int))))))] [] 3 (by kernel_rfl) (trivial) ?_
    refine T_cond (decide ((a1.length : Int) > (16384 : Int))) (by kernel_rfl) (fun hc => ?_) (fun hc => ?_)
    · have h := cond_tt hc h
      refine T_region [] [4, 5] [] [(4, .d (.str [])), (5, .d (.v (.int .i64 (2 : Int))))] [] 2 (by kernel_rfl) (trivial) ?_
      obtain hs := Option.some.inj h; subst hs
      refine T_ret fun a w hm => then_ret (T_return (fr' := [(4, .d (.str [])), (5, .d (.v (.int .i64 (2 : Int))))]) [4, 5] (by kernel_rfl) [.keep [4, 5]] (by kernel_rfl) (by kernel_rfl) (by kernel_rfl) (by show _ = _; kernel_rfl) (by exact trivial) a w hm)
    · have h := cond_ff hc h
      refine T_skip fun a w hm => then_norm (((?_ : T Tryd.prog e 30 _ _ _) a w hm))
      refine T_seqk ?_
      refine T_region [(1, { rw := some (.d (.v (.int .i64 (a0.length : Int)))) })] [1, 17, 18, 19] [] [(1, .d (.str a1)), (17, .d (.sl 2 (a0.map cS_FilterStep))), (18, .d (.v (.int .i64 (a0.length : Int)))), (19, .d (.v (.int .i64 (0 : Int))))] [(1, True ∧ AV.d (.v (.int .i64 ((a0.map cS_FilterStep).length : Int))) = .d (.v (.int .i64 (a0.length : Int))))] 1 (by kernel_rfl) (len_ok cS_FilterStep) ?_
      refine T_joinct h (fun (p : (List UInt8)) => [(1, .d (.str p))]) (fun s h => ?_) (fun v3 h => ?_)
      · refine T_co [.keep [1, 17, 18, 19]] ((fun (p : (List UInt8) × Int) => [(1, .d (.str p.1)), (17, .d (.sl 2 (a0.map cS_FilterStep))), (18, .d (.v (.int .i64 (a0.length : Int)))), (19, .d (.v (.int .i64 p.2)))]) (a1, (0 : Int))) (by show _ = _; kernel_rfl) ?_
        refine T_block ?_
        refine T_loopF (ι := (List UInt8) × Int) (fun (p : (List UInt8) × Int) => [(1, .d (.str p.1)), (17, .d (.sl 2 (a0.map cS_FilterStep))), (18, .d (.v (.int .i64 (a0.length : Int)))), (19, .d (.v (.int .i64 p.2)))]) (fun n p => filter_Encode_L0 F a0 n p.1 p.2 = some s) (fun i hh => by simp [filter_Encode_L0] at hh) (fun n p h => ?_) F (a1, (0 : Int)) h
        obtain ⟨v1, v2⟩ := p
        have h : filter_Encode_L0 F a0 (n + 1) v1 v2 = some s := h
        rw [filter_Encode_L0] at h
        refine T_region [] [1, 17, 18, 19, 20] [] [(1, .d (.str v1)), (17, .d (.sl 2 (a0.map cS_FilterStep))), (18, .d (.v (.int .i64 (a0.length : Int)))), (19, .d (.v (.int .i64 v2))), (20, .d (.v (.bool (decide (v2 < (a0.length : Int))))))] [] 1 (by kernel_rfl) (trivial) ?_
        refine T_seqk ?_
        refine T_cond (decide (v2 < (a0.length : Int))) (by kernel_rfl) (fun hc => ?_) (fun hc => ?_)
        · have h := cond_tt hc h
          refine T_skip fun a w hm => then_norm (((?_ : T Tryd.prog e 30 _ _ _) a w hm))
          refine T_seqk ?_
          refine T_block ?_
          obtain ⟨hp1, h⟩ := chk_ok h
          refine T_region [(0, { cs := cS_FilterStep (a0.getD v2.toNat (S_FilterStep.mk 0 0)) })] [1, 8, 17, 18, 19] [] [(1, .d (.str v1)), (8, .box [.d (.v (.int .i64 ((a0.getD v2.toNat (S_FilterStep.mk 0 0)).f0))), .d (.v (.int .i64 ((a0.getD v2.toNat (S_FilterStep.mk 0 0)).f1)))]), (17, .d (.sl 2 (a0.map cS_FilterStep))), (18, .d (.v (.int .i64 (a0.length : Int)))), (19, .d (.v (.int .i64 v2)))] [(0, 0 ≤ v2 ∧ (a0.map cS_FilterStep)[v2.toNat]? = some (cS_FilterStep (a0.getD v2.toNat (S_FilterStep.mk 0 0))))] 3 (by kernel_rfl) (idx_ok (d := (S_FilterStep.mk 0 0)) cS_FilterStep hp1) ?_
          obtain ⟨y1, hy2, h⟩ := call_ok h
          obtain ⟨y2, hy3, h⟩ := call_ok h
          refine T_region_end [(1, { res := .d (.v (vI_filter_coding y1)) }), (3, { res := .d (.str y2) })] [1, 17, 18, 19] [] [(1, .d (.str y2)), (17, .d (.sl 2 (a0.map cS_FilterStep))), (18, .d (.v (.int .i64 (a0.length : Int)))), (19, .d (.v (.int .i64 v2)))] [(1, ACall Tryd.prog 56 [.agg (cS_FilterStep (S_FilterStep.mk ((a0.getD v2.toNat (S_FilterStep.mk 0 0)).f0) ((a0.getD v2.toNat (S_FilterStep.mk 0 0)).f1)))] [] (.d (.v (vI_filter_coding y1))) []), (1, ICall Tryd.prog "printworks/filter.encode" [.d (.v (vI_filter_coding y1)), .d (.str v1)] [] (.d (.str y2)) [])] 1 (by kernel_rfl) (⟨filter_codingOf_ok hy2, I_filter_coding_encode_ok hy3⟩) fun a w hm => inBlock_norm (then_norm (((?_ : T Tryd.prog e 30 _ _ _) a w hm)))
          refine T_region_end [] [1, 17, 18, 19] [] [(1, .d (.str y2)), (17, .d (.sl 2 (a0.map cS_FilterStep))), (18, .d (.v (.int .i64 (a0.length : Int)))), (19, .d (.v (.int .i64 (IntKind.i64.wrap (v2 + (1 : Int))))))] [] 2 (by kernel_rfl) (trivial) fun a w hm => then_norm (⟨(y2, IntKind.i64.wrap (v2 + (1 : Int))), h, hm.co (cs := [.keep [1, 17, 18, 19]]) (by show _ = _; kernel_rfl)⟩)
        · have h := cond_ff hc h
          obtain hs := Option.some.inj h; subst hs
          refine T_exit fun a w hm => then_exit (then_exit (inBlock_exit (then_norm (hm.co (cs := [.keep [1]]) (by show _ = _; kernel_rfl)))))
      · skip
        refine fun a w hm => then_norm (((?_ : T Tryd.prog e 30 _ _ _) a w hm))
        obtain ⟨y4, hy4, h⟩ := call_ok h
        refine T_region [(1, { res := .d (.str y4) })] [4, 5] [] [(4, .d (.str y4)), (5, .d (.v (.int .i64 (0 : Int))))] [(1, ACall Tryd.prog 57 [.d (.str v3)] [] (.d (.str y4)) [])] 2 (by kernel_rfl) (strings_Clone_ok hy4) ?_
        obtain hs := Option.some.inj h; subst hs
        refine T_ret fun a w hm => T_return (fr' := [(4, .d (.str y4)), (5, .d (.v (.int .i64 (0 : Int))))]) [4, 5] (by kernel_rfl) [.keep [4, 5]] (by kernel_rfl) (by kernel_rfl) (by kernel_rfl) (by show _ = _; kernel_rfl) (by exact trivial) a w hm

theorem ref3_RunBytes_ok {F : Nat} {a0 : List UInt8} {r : Int} (h : ref3_RunBytes F a0 = some r) : ACall Tryd.prog 27 [.d (.str a0)] [] (.d (.v (.int .i64 r))) [] := by
  rw [ref3_RunBytes] at h
  refine ACall.intro (N := 98) Tryd.func27 rfl rfl rfl rfl rfl fun e => ?_
  refine T_region [] [0] [] [(0, .d (.str a0))] [] 1 (by kernel_rfl) (trivial) ?_
  obtain ⟨hp1, h⟩ := chk_ok h
  refine T_region [(3, { es := some ((List.replicate (IntKind.i64.wrap ((a0.length : Int) + (1 : Int))).toNat 0).map (cI .i64)) })] [0, 3] [] [(0, .d (.str a0)), (3, .own 3 1 ((List.replicate (IntKind.i64.wrap ((a0.length : Int) + (1 : Int))).toNat 0).map (cI .i64)))] [(3, (0 ≤ (IntKind.i64.wrap ((a0.length : Int) + (1 : Int))) ∧ (IntKind.i64.wrap ((a0.length : Int) + (1 : Int))) ≤ (IntKind.i64.wrap ((a0.length : Int) + (1 : Int))) ∧ (IntKind.i64.wrap ((a0.length : Int) + (1 : Int))) ≤ 9223372036854775807 ∧ ((8 : Nat) : Int) * (IntKind.i64.wrap ((a0.length : Int) + (1 : Int))) ≤ 281474976710656) ∧ List.replicate (IntKind.i64.wrap ((a0.length : Int) + (1 : Int))).toNat ((cI .i64) 0) = ((List.replicate (IntKind.i64.wrap ((a0.length : Int) + (1 : Int))).toNat 0).map (cI .i64)))] 1 (by kernel_rfl) (⟨hp1, repl_ok (cI .i64) rfl⟩) ?_
  refine T_seqk ?_
  refine T_region [] [0, 3, 4] [] [(0, .d (.str a0)), (3, .own 3 1 ((List.replicate (IntKind.i64.wrap ((a0.length : Int) + (1 : Int))).toNat 0).map (cI .i64))), (4, .d (.v (.int .i64 (1 : Int))))] [] 1 (by kernel_rfl) (trivial) ?_
  refine T_joinct h (fun (p : (List Int)) => [(0, .d (.str a0)), (3, .own 3 1 (p.map (cI .i64)))]) (fun s h => ?_) (fun v10 h => ?_)
  · refine T_co [.keep [0, 3, 4]] ((fun (p : (List Int) × Int) => [(0, .d (.str a0)), (3, .own 3 1 (p.1.map (cI .i64))), (4, .d (.v (.int .i64 p.2)))]) ((List.replicate (IntKind.i64.wrap ((a0.length : Int) + (1 : Int))).toNat 0), (1 : Int))) (by show _ = _; kernel_rfl) ?_
    refine T_block ?_
    refine T_loopF (ι := (List Int) × Int) (fun (p : (List Int) × Int) => [(0, .d (.str a0)), (3, .own 3 1 (p.1.map (cI .i64))), (4, .d (.v (.int .i64 p.2)))]) (fun n p => ref3_RunBytes_L0 F a0 n p.1 p.2 = some s) (fun i hh => by simp [ref3_RunBytes_L0] at hh) (fun n p h => ?_) F ((List.replicate (IntKind.i64.wrap ((a0.length : Int) + (1 : Int))).toNat 0), (1 : Int)) h
    obtain ⟨v8, v1⟩ := p
    have h : ref3_RunBytes_L0 F a0 (n + 1) v8 v1 = some s := h
    rw [ref3_RunBytes_L0] at h
    refine T_seqk ?_
    refine T_region [] [0, 3, 4, 16] [] [(0, .d (.str a0)), (3, .own 3 1 (v8.map (cI .i64))), (4, .d (.v (.int .i64 v1))), (16, .d (.v (.bool (decide (v1 ≤ (a0.length : Int))))))] [] 4 (by kernel_rfl) (trivial) ?_
    refine T_cond (decide (v1 ≤ (a0.length : Int))) (by kernel_rfl) (fun hc => ?_) (fun hc => ?_)
    · have h := cond_tt hc h
      refine T_skip fun a w hm => then_norm (((?_ : T Tryd.prog e 98 _ _ _) a w hm))
      refine T_seqk ?_
      refine T_block ?_
      obtain ⟨hp2, h⟩ := chk_ok h
      obtain ⟨hp3, h⟩ := chk_ok h
      refine T_region [(6, { cs := (cI .i64) (v8.getD (IntKind.i64.wrap (v1 - (1 : Int))).toNat 0) }), (9, { cs := (cI .i64) (v8.getD v1.toNat 0), es := some ((v8.set v1.toNat (IntKind.i64.wrap ((v8.getD (IntKind.i64.wrap (v1 - (1 : Int))).toNat 0) + (2 : Int)))).map (cI .i64)) })] [0, 3, 4] [] [(0, .d (.str a0)), (3, .own 3 1 ((v8.set v1.toNat (IntKind.i64.wrap ((v8.getD (IntKind.i64.wrap (v1 - (1 : Int))).toNat 0) + (2 : Int)))).map (cI .i64))), (4, .d (.v (.int .i64 v1)))] [(5, 0 ≤ (IntKind.i64.wrap (v1 - (1 : Int))) ∧ (IntKind.i64.wrap (v1 - (1 : Int))) < (v8.map (cI .i64)).length), (0, (v8.map (cI .i64))[(IntKind.i64.wrap (v1 - (1 : Int))).toNat]? = some ((cI .i64) (v8.getD (IntKind.i64.wrap (v1 - (1 : Int))).toNat 0))), (1, 0 ≤ v1 ∧ v1 < (v8.map (cI .i64)).length), (0, (v8.map (cI .i64))[v1.toNat]? = some ((cI .i64) (v8.getD v1.toNat 0)) ∧ (v8.map (cI .i64)).set v1.toNat ((cI .i64) (IntKind.i64.wrap ((v8.getD (IntKind.i64.wrap (v1 - (1 : Int))).toNat 0) + (2 : Int)))) = ((v8.set v1.toNat (IntKind.i64.wrap ((v8.getD (IntKind.i64.wrap (v1 - (1 : Int))).toNat 0) + (2 : Int)))).map (cI .i64)))] 0 (by kernel_rfl) (⟨own_idx (cI .i64) hp2, (idx_ok (d := 0) (cI .i64) hp2).2, own_idx (cI .i64) hp3, ⟨(idx_ok (d := 0) (cI .i64) hp3).2, set_ok (cI .i64) rfl⟩⟩) ?_
      refine T_region [] [0, 3, 4, 5] [] [(0, .d (.str a0)), (3, .own 3 1 ((v8.set v1.toNat (IntKind.i64.wrap ((v8.getD (IntKind.i64.wrap (v1 - (1 : Int))).toNat 0) + (2 : Int)))).map (cI .i64))), (4, .d (.v (.int .i64 v1))), (5, .d (.v (.bool true)))] [] 1 (by kernel_rfl) (trivial) ?_
      refine T_region [] [0, 3, 4, 5, 6] [] [(0, .d (.str a0)), (3, .own 3 1 ((v8.set v1.toNat (IntKind.i64.wrap ((v8.getD (IntKind.i64.wrap (v1 - (1 : Int))).toNat 0) + (2 : Int)))).map (cI .i64))), (4, .d (.v (.int .i64 v1))), (5, .d (.v (.bool true))), (6, .d (.v (.int .i64 (1 : Int))))] [] 1 (by kernel_rfl) (trivial) ?_
      refine T_joinct h (fun (p : (List Int)) => [(0, .d (.str a0)), (3, .own 3 1 (p.map (cI .i64))), (4, .d (.v (.int .i64 v1)))]) (fun s h => ?_) (fun v9 h => ?_)
      · refine T_co [.keep [0, 3, 4, 5, 6]] ((fun (p : (List Int) × Bool × Int) => [(0, .d (.str a0)), (3, .own 3 1 (p.1.map (cI .i64))), (4, .d (.v (.int .i64 v1))), (5, .d (.v (.bool p.2.1))), (6, .d (.v (.int .i64 p.2.2)))]) ((v8.set v1.toNat (IntKind.i64.wrap ((v8.getD (IntKind.i64.wrap (v1 - (1 : Int))).toNat 0) + (2 : Int)))), true, (1 : Int))) (by show _ = _; kernel_rfl) ?_
        refine T_block ?_
        refine T_loopF (ι := (List Int) × Bool × Int) (fun (p : (List Int) × Bool × Int) => [(0, .d (.str a0)), (3, .own 3 1 (p.1.map (cI .i64))), (4, .d (.v (.int .i64 v1))), (5, .d (.v (.bool p.2.1))), (6, .d (.v (.int .i64 p.2.2)))]) (fun n p => ref3_RunBytes_L2 F a0 v1 n p.1 p.2.1 p.2.2 = some s) (fun i hh => by simp [ref3_RunBytes_L2] at hh) (fun n p h => ?_) F ((v8.set v1.toNat (IntKind.i64.wrap ((v8.getD (IntKind.i64.wrap (v1 - (1 : Int))).toNat 0) + (2 : Int)))), true, (1 : Int)) h
        obtain ⟨v2, v3, v4⟩ := p
        have h : ref3_RunBytes_L2 F a0 v1 (n + 1) v2 v3 v4 = some s := h
        rw [ref3_RunBytes_L2] at h
        refine T_seqk ?_
        refine T_region [] [0, 3, 4, 5, 6, 34] [] [(0, .d (.str a0)), (3, .own 3 1 (v2.map (cI .i64))), (4, .d (.v (.int .i64 v1))), (5, .d (.v (.bool v3))), (6, .d (.v (.int .i64 v4))), (34, .d (.v (.bool (bif (decide (v4 ≤ (128 : Int))) then (decide (v4 ≤ v1)) else false))))] [(3, ((((decide (v4 ≤ (128 : Int))) == true) && true) = true → True)), (0, ((((decide (v4 ≤ (128 : Int))) == true) && true) = true → True)), (0, ((((decide (v4 ≤ (128 : Int))) == true) && true) = true → True))] 1 (by kernel_rfl) (⟨(fun hg => trivial), (fun hg => trivial), (fun hg => trivial)⟩) ?_
        refine T_cond (bif (decide (v4 ≤ (128 : Int))) then (decide (v4 ≤ v1)) else false) (by kernel_rfl) (fun hc => ?_) (fun hc => ?_)
        · have h := cond_tt hc h
          refine T_skip fun a w hm => then_norm (((?_ : T Tryd.prog e 98 _ _ _) a w hm))
          refine T_joinc h (fun (p : (List Int) × Bool) => [(0, .d (.str a0)), (3, .own 3 1 (p.1.map (cI .i64))), (4, .d (.v (.int .i64 v1))), (5, .d (.v (.bool p.2))), (6, .d (.v (.int .i64 v4)))]) (fun s h => ?_) (fun s h => ?_)
          · refine T_block ?_
            obtain ⟨hp4, h⟩ := chk_ok h
            obtain ⟨hp5, h⟩ := chk_ok h
            obtain ⟨z1, hz1, h⟩ := lett_ok h
            refine T_draw mixed [(11, { rw := some (.d (.v (.bool z1))) })] [0, 3, 4, 5, 6] [] [(0, .d (.str a0)), (3, .own 3 1 (v2.map (cI .i64))), (4, .d (.v (.int .i64 v1))), (5, .d (.v (.bool (bif v3 then z1 else false)))), (6, .d (.v (.int .i64 v4)))] [(2, (((v3 == true) && true) = true → True)), (0, (((v3 == true) && true) = true → True)), (0, (((v3 == true) && true) = true → True)), (0, (((v3 == true) && true) = true → True)), (0, (((v3 == true) && true) = true → 0 ≤ (IntKind.i64.wrap (v1 - v4)) ∧ (IntKind.i64.wrap (v1 - v4)) < a0.length)), (0, (((v3 == true) && true) = true → True)), (0, (((v3 == true) && true) = true → True)), (0, (((v3 == true) && true) = true → True)), (0, (((v3 == true) && true) = true → 0 ≤ (IntKind.i64.wrap (v1 - (1 : Int))) ∧ (IntKind.i64.wrap (v1 - (1 : Int))) < a0.length)), (0, (((v3 == true) && true) = true → (True) ∧ AV.d (.v (.bool (((a0.getD (IntKind.i64.wrap (v1 - v4)).toNat 0).toNat : Int) == ((a0.getD (IntKind.i64.wrap (v1 - (1 : Int))).toNat 0).toNat : Int)))) = .d (.v (.bool z1))))] 2 (by kernel_rfl) (⟨(fun hg => trivial), (fun hg => trivial), (fun hg => trivial), (fun hg => trivial), (fun hg => (hp4 hg)), (fun hg => trivial), (fun hg => trivial), (fun hg => trivial), (fun hg => (hp5 hg)), (fun hg => ⟨trivial, (by subst hz1; rfl)⟩)⟩) ?_
            refine T_joinc h (fun (p : (List Int)) => [(0, .d (.str a0)), (3, .own 3 1 (p.map (cI .i64))), (4, .d (.v (.int .i64 v1))), (5, .d (.v (.bool (bif v3 then z1 else false)))), (6, .d (.v (.int .i64 v4)))]) (fun s h => ?_) (fun v5 h => ?_)
            · obtain ⟨hp6, h⟩ := chk_ok h
              obtain ⟨z2, hz2, h⟩ := lett_ok h
              refine T_region [(5, { cs := (cI .i64) (v2.getD (IntKind.i64.wrap (v1 - v4)).toNat 0) }), (8, { rw := some (.d (.v (.int .i64 z2))) })] [0, 3, 4, 5, 6, 7] [] [(0, .d (.str a0)), (3, .own 3 1 (v2.map (cI .i64))), (4, .d (.v (.int .i64 v1))), (5, .d (.v (.bool (bif v3 then z1 else false)))), (6, .d (.v (.int .i64 v4))), (7, .d (.v (.int .i64 z2)))] [(4, 0 ≤ (IntKind.i64.wrap (v1 - v4)) ∧ (IntKind.i64.wrap (v1 - v4)) < (v2.map (cI .i64)).length), (0, (v2.map (cI .i64))[(IntKind.i64.wrap (v1 - v4)).toNat]? = some ((cI .i64) (v2.getD (IntKind.i64.wrap (v1 - v4)).toNat 0))), (2, (True) ∧ AV.d (.v (.int .i64 (IntKind.i64.wrap ((IntKind.i64.wrap ((v2.getD (IntKind.i64.wrap (v1 - v4)).toNat 0) + (1 : Int))) + v4)))) = .d (.v (.int .i64 z2)))] 1 (by kernel_rfl) (⟨own_idx (cI .i64) hp6, (idx_ok (d := 0) (cI .i64) hp6).2, ⟨trivial, (by subst hz2; rfl)⟩⟩) ?_
              obtain ⟨hp7, h⟩ := chk_ok h
              refine T_region [(4, { cs := (cI .i64) (v2.getD v1.toNat 0) })] [0, 3, 4, 5, 6, 7, 64] [] [(0, .d (.str a0)), (3, .own 3 1 (v2.map (cI .i64))), (4, .d (.v (.int .i64 v1))), (5, .d (.v (.bool (bif v3 then z1 else false)))), (6, .d (.v (.int .i64 v4))), (7, .d (.v (.int .i64 z2))), (64, .d (.v (.bool (decide (z2 < (v2.getD v1.toNat 0))))))] [(3, 0 ≤ v1 ∧ v1 < (v2.map (cI .i64)).length), (0, (v2.map (cI .i64))[v1.toNat]? = some ((cI .i64) (v2.getD v1.toNat 0)))] 1 (by kernel_rfl) (⟨own_idx (cI .i64) hp7, (idx_ok (d := 0) (cI .i64) hp7).2⟩) ?_
              refine T_cond (decide (z2 < (v2.getD v1.toNat 0))) (by kernel_rfl) (fun hc => ?_) (fun hc => ?_)
              · have h := cond_tt hc h
                obtain ⟨hp8, h⟩ := chk_ok h
                obtain hs := Option.some.inj h; subst hs
                refine T_region_end [(4, { cs := (cI .i64) (v2.getD v1.toNat 0), es := some ((v2.set v1.toNat z2).map (cI .i64)) })] [0, 3, 4, 5, 6] [] [(0, .d (.str a0)), (3, .own 3 1 ((v2.set v1.toNat z2).map (cI .i64))), (4, .d (.v (.int .i64 v1))), (5, .d (.v (.bool (bif v3 then z1 else false)))), (6, .d (.v (.int .i64 v4)))] [(3, 0 ≤ v1 ∧ v1 < (v2.map (cI .i64)).length), (0, (v2.map (cI .i64))[v1.toNat]? = some ((cI .i64) (v2.getD v1.toNat 0)) ∧ (v2.map (cI .i64)).set v1.toNat ((cI .i64) z2) = ((v2.set v1.toNat z2).map (cI .i64)))] 0 (by kernel_rfl) (⟨own_idx (cI .i64) hp8, ⟨(idx_ok (d := 0) (cI .i64) hp8).2, set_ok (cI .i64) rfl⟩⟩) fun a w hm => then_norm (hm.co (cs := [.keep [0, 3, 4, 5, 6]]) (by show _ = _; kernel_rfl))
              · have h := cond_ff hc h
                obtain hs := Option.some.inj h; subst hs
                refine T_skip fun a w hm => then_norm (hm.co (cs := [.keep [0, 3, 4, 5, 6]]) (by show _ = _; kernel_rfl))
            · skip
              obtain ⟨hp9, h⟩ := chk_ok h
              refine T_region [(5, { cs := (cI .i64) (v5.getD (IntKind.i64.wrap (v1 - v4)).toNat 0) })] [0, 3, 4, 5, 6, 8] [] [(0, .d (.str a0)), (3, .own 3 1 (v5.map (cI .i64))), (4, .d (.v (.int .i64 v1))), (5, .d (.v (.bool (bif v3 then z1 else false)))), (6, .d (.v (.int .i64 v4))), (8, .d (.v (.int .i64 (IntKind.i64.wrap ((v5.getD (IntKind.i64.wrap (v1 - v4)).toNat 0) + (2 : Int))))))] [(4, 0 ≤ (IntKind.i64.wrap (v1 - v4)) ∧ (IntKind.i64.wrap (v1 - v4)) < (v5.map (cI .i64)).length), (0, (v5.map (cI .i64))[(IntKind.i64.wrap (v1 - v4)).toNat]? = some ((cI .i64) (v5.getD (IntKind.i64.wrap (v1 - v4)).toNat 0)))] 2 (by kernel_rfl) (⟨own_idx (cI .i64) hp9, (idx_ok (d := 0) (cI .i64) hp9).2⟩) ?_
              obtain ⟨hp10, h⟩ := chk_ok h
              obtain ⟨z3, hz3, h⟩ := lett_ok h
              obtain ⟨z4, hz4, h⟩ := lett_ok h
              refine T_region [(10, { cs := (cI .i64) (v5.getD v1.toNat 0) }), (11, { rw := some (.d (.v (.bool z3))) }), (12, { rw := some (.d (.v (.bool z4))) })] [0, 3, 4, 5, 6, 8, 88] [] [(0, .d (.str a0)), (3, .own 3 1 (v5.map (cI .i64))), (4, .d (.v (.int .i64 v1))), (5, .d (.v (.bool (bif v3 then z1 else false)))), (6, .d (.v (.int .i64 v4))), (8, .d (.v (.int .i64 (IntKind.i64.wrap ((v5.getD (IntKind.i64.wrap (v1 - v4)).toNat 0) + (2 : Int)))))), (88, .d (.v (.bool z4)))] [(2, ((((bif v3 then z1 else false) == true) && true) = true → True)), (0, ((((bif v3 then z1 else false) == true) && true) = true → True)), (2, ((((bif (bif v3 then z1 else false) then (decide (v4 > (1 : Int))) else false) == true) && true) = true → True)), (0, ((((bif (bif v3 then z1 else false) then (decide (v4 > (1 : Int))) else false) == true) && true) = true → True)), (0, ((((bif (bif v3 then z1 else false) then (decide (v4 > (1 : Int))) else false) == true) && true) = true → True)), (0, ((((bif (bif v3 then z1 else false) then (decide (v4 > (1 : Int))) else false) == true) && true) = true → 0 ≤ v1 ∧ v1 < (v5.map (cI .i64)).length)), (0, ((((bif (bif v3 then z1 else false) then (decide (v4 > (1 : Int))) else false) == true) && true) = true → (v5.map (cI .i64))[v1.toNat]? = some ((cI .i64) (v5.getD v1.toNat 0)))), (0, ((((bif (bif v3 then z1 else false) then (decide (v4 > (1 : Int))) else false) == true) && true) = true → (True) ∧ AV.d (.v (.bool (decide ((IntKind.i64.wrap ((v5.getD (IntKind.i64.wrap (v1 - v4)).toNat 0) + (2 : Int))) < (v5.getD v1.toNat 0))))) = .d (.v (.bool z3)))), (0, (True) ∧ AV.d (.v (.bool (bif (bif (bif v3 then z1 else false) then (decide (v4 > (1 : Int))) else false) then z3 else false))) = .d (.v (.bool z4)))] 0 (by kernel_rfl) (⟨(fun hg => trivial), (fun hg => trivial), (fun hg => trivial), (fun hg => trivial), (fun hg => trivial), (fun hg => own_idx (cI .i64) (hp10 hg)), (fun hg => (idx_ok (d := 0) (cI .i64) (hp10 hg)).2), (fun hg => ⟨trivial, (by subst hz3; rfl)⟩), ⟨trivial, (by subst hz4; rfl)⟩⟩) ?_
              refine T_cond z4 (by kernel_rfl) (fun hc => ?_) (fun hc => ?_)
              · have h := cond_tt hc h
                obtain ⟨hp11, h⟩ := chk_ok h
                obtain hs := Option.some.inj h; subst hs
                refine T_region_end [(4, { cs := (cI .i64) (v5.getD v1.toNat 0), es := some ((v5.set v1.toNat (IntKind.i64.wrap ((v5.getD (IntKind.i64.wrap (v1 - v4)).toNat 0) + (2 : Int)))).map (cI .i64)) })] [0, 3, 4, 5, 6] [] [(0, .d (.str a0)), (3, .own 3 1 ((v5.set v1.toNat (IntKind.i64.wrap ((v5.getD (IntKind.i64.wrap (v1 - v4)).toNat 0) + (2 : Int)))).map (cI .i64))), (4, .d (.v (.int .i64 v1))), (5, .d (.v (.bool (bif v3 then z1 else false)))), (6, .d (.v (.int .i64 v4)))] [(3, 0 ≤ v1 ∧ v1 < (v5.map (cI .i64)).length), (0, (v5.map (cI .i64))[v1.toNat]? = some ((cI .i64) (v5.getD v1.toNat 0)) ∧ (v5.map (cI .i64)).set v1.toNat ((cI .i64) (IntKind.i64.wrap ((v5.getD (IntKind.i64.wrap (v1 - v4)).toNat 0) + (2 : Int)))) = ((v5.set v1.toNat (IntKind.i64.wrap ((v5.getD (IntKind.i64.wrap (v1 - v4)).toNat 0) + (2 : Int)))).map (cI .i64)))] 0 (by kernel_rfl) (⟨own_idx (cI .i64) hp11, ⟨(idx_ok (d := 0) (cI .i64) hp11).2, set_ok (cI .i64) rfl⟩⟩) fun a w hm => inBlock_norm (then_norm (hm.co (cs := [.keep [0, 3, 4, 5, 6]]) (by show _ = _; kernel_rfl)))
              · have h := cond_ff hc h
                obtain hs := Option.some.inj h; subst hs
                refine T_skip fun a w hm => inBlock_norm (then_norm (hm.co (cs := [.keep [0, 3, 4, 5, 6]]) (by show _ = _; kernel_rfl)))
          · obtain ⟨v6, v7⟩ := s
            try dsimp only at h
            refine T_region_end [] [0, 3, 4, 5, 6] [] [(0, .d (.str a0)), (3, .own 3 1 (v6.map (cI .i64))), (4, .d (.v (.int .i64 v1))), (5, .d (.v (.bool v7))), (6, .d (.v (.int .i64 (IntKind.i64.wrap (v4 + (1 : Int))))))] [] 3 (by kernel_rfl) (trivial) fun a w hm => then_norm (⟨(v6, v7, IntKind.i64.wrap (v4 + (1 : Int))), h, hm.co (cs := [.keep [0, 3, 4, 5, 6]]) (by show _ = _; kernel_rfl)⟩)
        · have h := cond_ff hc h
          obtain hs := Option.some.inj h; subst hs
          refine T_exit fun a w hm => then_exit (then_exit (inBlock_exit (then_norm (hm.co (cs := [.keep [0, 3, 4]]) (by show _ = _; kernel_rfl)))))
      · skip
        refine fun a w hm => inBlock_norm (then_norm (((?_ : T Tryd.prog e 98 _ _ _) a w hm)))
        refine T_region_end [] [0, 3, 4] [] [(0, .d (.str a0)), (3, .own 3 1 (v9.map (cI .i64))), (4, .d (.v (.int .i64 (IntKind.i64.wrap (v1 + (1 : Int))))))] [] 3 (by kernel_rfl) (trivial) fun a w hm => then_norm (⟨(v9, IntKind.i64.wrap (v1 + (1 : Int))), h, hm.co (cs := [.keep [0, 3, 4]]) (by show _ = _; kernel_rfl)⟩)
    · have h := cond_ff hc h
      obtain hs := Option.some.inj h; subst hs
      refine T_exit fun a w hm => then_exit (then_exit (inBlock_exit (then_norm (hm.co (cs := [.keep [0, 3]]) (by show _ = _; kernel_rfl)))))
  · skip
    refine fun a w hm => then_norm (((?_ : T Tryd.prog e 98 _ _ _) a w hm))
    obtain ⟨hp12, h⟩ := chk_ok h
    refine T_region [(4, { cs := (cI .i64) (v10.getD (a0.length : Int).toNat 0) })] [2] [] [(2, .d (.v (.int .i64 (v10.getD (a0.length : Int).toNat 0))))] [(3, 0 ≤ (a0.length : Int) ∧ (a0.length : Int) < (v10.map (cI .i64)).length), (0, (v10.map (cI .i64))[(a0.length : Int).toNat]? = some ((cI .i64) (v10.getD (a0.length : Int).toNat 0)))] 1 (by kernel_rfl) (⟨own_idx (cI .i64) hp12, (idx_ok (d := 0) (cI .i64) hp12).2⟩) ?_
    obtain hs := Option.some.inj h; subst hs
    refine T_ret fun a w hm => T_return (fr' := [(2, .d (.v (.int .i64 (v10.getD (a0.length : Int).toNat 0))))]) [2] (by kernel_rfl) [.keep [2]] (by kernel_rfl) (by kernel_rfl) (by kernel_rfl) (by show _ = _; kernel_rfl) (by exact trivial) a w hm

theorem law3_FilterRunShortest_ok {F : Nat} {a0 : List UInt8} {r : Bool} (h : law3_FilterRunShortest F a0 = some r) : ACall Tryd.prog 7 [.d (.str a0)] [.glo 0 (glob_filter_steps.flatMap (cI .u32))] (.d (.v (.bool r))) [.glo 0 (glob_filter_steps.flatMap (cI .u32))] := by
  rw [law3_FilterRunShortest] at h
  refine ACall.intro (N := 46) Tryd.func7 rfl rfl rfl rfl rfl fun e => ?_
  refine T_region [] [0, 1000000] [] [(0, .d (.str a0)), (1000000, .glo 0 (glob_filter_steps.flatMap (cI .u32)))] [] 1 (by kernel_rfl) (trivial) ?_
  refine T_seqk ?_
  obtain ⟨y1, hy1, h⟩ := call_ok h
  refine T_region [(0, { res := .d (.v (.bool y1)), vout := [.glo 0 (glob_filter_steps.flatMap (cI .u32))], xs := [1000000] })] [0, 8, 1000000] [] [(0, .d (.str a0)), (8, .d (.v (.bool (!y1)))), (1000000, .glo 0 (glob_filter_steps.flatMap (cI .u32)))] [(0, ACall Tryd.prog 15 [] [.glo 0 (glob_filter_steps.flatMap (cI .u32))] (.d (.v (.bool y1))) [.glo 0 (glob_filter_steps.flatMap (cI .u32))])] 1 (by kernel_rfl) (law3_filterFact_ok hy1) ?_
  refine T_cond (!y1) (by kernel_rfl) (fun hc => ?_) (fun hc => ?_)
  · have h := cond_tt hc h
    refine T_region [] [2, 1000000] [] [(2, .d (.v (.bool false))), (1000000, .glo 0 (glob_filter_steps.flatMap (cI .u32)))] [] 1 (by kernel_rfl) (trivial) ?_
    obtain hs := Option.some.inj h; subst hs
    refine T_ret fun a w hm => then_ret (T_return (fr' := [(2, .d (.v (.bool false))), (1000000, .glo 0 (glob_filter_steps.flatMap (cI .u32)))]) [2] (by kernel_rfl) [.keep [2, 1000000]] (by kernel_rfl) (by kernel_rfl) (by kernel_rfl) (by show _ = _; kernel_rfl) (by exact ⟨⟨by kernel_rfl, by kernel_rfl⟩, trivial⟩) a w hm)
  · have h := cond_ff hc h
    refine T_skip fun a w hm => then_norm (((?_ : T Tryd.prog e 46 _ _ _) a w hm))
    refine T_joinc h (fun (p : (List UInt8)) => [(0, .d (.str p)), (1000000, .glo 0 (glob_filter_steps.flatMap (cI .u32)))]) (fun s h => ?_) (fun v1 h => ?_)
    · refine T_region [] [0, 11, 1000000] [] [(0, .d (.str a0)), (11, .d (.v (.bool (decide ((a0.length : Int) > (2000 : Int)))))), (1000000, .glo 0 (glob_filter_steps.flatMap (cI .u32)))] [] 3 (by kernel_rfl) (trivial) ?_
      refine T_cond (decide ((a0.length : Int) > (2000 : Int))) (by kernel_rfl) (fun hc => ?_) (fun hc => ?_)
      · have h := cond_tt hc h
        obtain ⟨hp1, h⟩ := chk_ok h
        obtain hs := Option.some.inj h; subst hs
        refine T_region_end [] [0, 1000000] [] [(0, .d (.str ((a0.drop (0 : Int).toNat).take ((2000 : Int).toNat - (0 : Int).toNat)))), (1000000, .glo 0 (glob_filter_steps.flatMap (cI .u32)))] [(1, 0 ≤ (0 : Int) ∧ (0 : Int) ≤ (2000 : Int) ∧ (2000 : Int) ≤ (a0.length : Int))] 1 (by kernel_rfl) (hp1) fun a w hm => then_norm (hm.co (cs := [.keep [0, 1000000]]) (by show _ = _; kernel_rfl))
      · have h := cond_ff hc h
        obtain hs := Option.some.inj h; subst hs
        refine T_skip fun a w hm => then_norm (hm.co (cs := [.keep [0, 1000000]]) (by show _ = _; kernel_rfl))
    · skip
      obtain ⟨y2, hy2, h⟩ := call_ok h
      refine T_region [(1, { es := some (([(S_FilterStep.mk (1 : Int) 0)]).map cS_FilterStep) }), (3, { res := .tup [.d (.str y2.1), .d (.v (.int .i64 y2.2))] })] [0, 3, 4, 1000000] [] [(0, .d (.str v1)), (3, .d (.str y2.1)), (4, .d (.v (.int .i64 y2.2))), (1000000, .glo 0 (glob_filter_steps.flatMap (cI .u32)))] [(1, (([(S_FilterStep.mk (1 : Int) 0)]).map cS_FilterStep) = (([(S_FilterStep.mk (1 : Int) 0)]).map cS_FilterStep)), (1, ACall Tryd.prog 26 [.d (.sl 2 (([(S_FilterStep.mk (1 : Int) 0)]).map cS_FilterStep)), .d (.str v1)] [] (.tup [.d (.str y2.1), .d (.v (.int .i64 y2.2))]) [])] 5 (by kernel_rfl) (⟨rfl, filter_Encode_ok hy2⟩) ?_
      obtain ⟨y3, hy3, h⟩ := call_ok h
      refine T_region [(1, { es := some (([(S_FilterStep.mk (1 : Int) 0)]).map cS_FilterStep) }), (3, { res := .tup [.d (.str y3.1), .d (.v (.int .i64 y3.2))] })] [0, 3, 4, 5, 6, 1000000] [] [(0, .d (.str v1)), (3, .d (.str y2.1)), (4, .d (.v (.int .i64 y2.2))), (5, .d (.str y3.1)), (6, .d (.v (.int .i64 y3.2))), (1000000, .glo 0 (glob_filter_steps.flatMap (cI .u32)))] [(1, (([(S_FilterStep.mk (1 : Int) 0)]).map cS_FilterStep) = (([(S_FilterStep.mk (1 : Int) 0)]).map cS_FilterStep)), (1, ACall Tryd.prog 17 [.d (.sl 2 (([(S_FilterStep.mk (1 : Int) 0)]).map cS_FilterStep)), .d (.str y2.1)] [] (.tup [.d (.str y3.1), .d (.v (.int .i64 y3.2))]) [])] 5 (by kernel_rfl) (⟨rfl, ref3_Decoded_ok hy3⟩) ?_
      obtain ⟨y4, hy4, h⟩ := call_ok h
      obtain ⟨z1, hz1, h⟩ := lett_ok h
      refine T_region [(15, { res := .d (.v (.int .i64 y4)) }), (17, { rw := some (.d (.v (.bool z1))) })] [2, 1000000] [] [(2, .d (.v (.bool z1))), (1000000, .glo 0 (glob_filter_steps.flatMap (cI .u32)))] [(3, ((((y2.2 == (0 : Int)) == true) && true) = true → True)), (0, ((((y2.2 == (0 : Int)) == true) && true) = true → True)), (2, ((((bif (y2.2 == (0 : Int)) then (y3.2 == (0 : Int)) else false) == true) && true) = true → True)), (0, ((((bif (y2.2 == (0 : Int)) then (y3.2 == (0 : Int)) else false) == true) && true) = true → True)), (0, ((((bif (y2.2 == (0 : Int)) then (y3.2 == (0 : Int)) else false) == true) && true) = true → True)), (2, ((((bif (bif (y2.2 == (0 : Int)) then (y3.2 == (0 : Int)) else false) then (y3.1 == v1) else false) == true) && true) = true → True)), (0, ((((bif (bif (y2.2 == (0 : Int)) then (y3.2 == (0 : Int)) else false) then (y3.1 == v1) else false) == true) && true) = true → True)), (0, ((((bif (bif (y2.2 == (0 : Int)) then (y3.2 == (0 : Int)) else false) then (y3.1 == v1) else false) == true) && true) = true → True)), (0, ((((bif (bif (y2.2 == (0 : Int)) then (y3.2 == (0 : Int)) else false) then (y3.1 == v1) else false) == true) && true) = true → ACall Tryd.prog 27 [.d (.str v1)] [] (.d (.v (.int .i64 y4))) [])), (0, ((((bif (bif (y2.2 == (0 : Int)) then (y3.2 == (0 : Int)) else false) then (y3.1 == v1) else false) == true) && true) = true → True)), (0, (True) ∧ AV.d (.v (.bool (bif (bif (bif (y2.2 == (0 : Int)) then (y3.2 == (0 : Int)) else false) then (y3.1 == v1) else false) then ((y2.1.length : Int) == y4) else false))) = .d (.v (.bool z1)))] 1 (by kernel_rfl) (⟨(fun hg => trivial), (fun hg => trivial), (fun hg => trivial), (fun hg => trivial), (fun hg => trivial), (fun hg => trivial), (fun hg => trivial), (fun hg => trivial), (fun hg => ref3_RunBytes_ok (gcall_ok hg hy4)), (fun hg => trivial), ⟨trivial, (by subst hz1; rfl)⟩⟩) ?_
      obtain hs := Option.some.inj h; subst hs
      refine T_ret fun a w hm => T_return (fr' := [(2, .d (.v (.bool z1))), (1000000, .glo 0 (glob_filter_steps.flatMap (cI .u32)))]) [2] (by kernel_rfl) [.keep [2, 1000000]] (by kernel_rfl) (by kernel_rfl) (by kernel_rfl) (by show _ = _; kernel_rfl) (by exact ⟨⟨by kernel_rfl, by kernel_rfl⟩, trivial⟩) a w hm

end Go.Vm.FilG
