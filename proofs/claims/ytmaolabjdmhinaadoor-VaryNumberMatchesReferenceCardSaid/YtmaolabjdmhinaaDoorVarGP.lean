import Derived.Test.YtmaolabjdmhinaaDoorProg
import Derived.Test.YtmaolabjdmhinaaDoorVarGF
import Derived.Test.YtmaolabjdmhinaaDoorVarGB
namespace Go.Vm.VarG
open Go.Proofs
set_option maxRecDepth 20000
theorem mixed : Tryd.prog.follows .mixedOrders = true := by kernel_rfl
theorem vary_check_ok {F : Nat} {a0 : List UInt8} {r : Int} (h : vary_check F a0 = some r) : ACall Tryd.prog 70 [.d (.str a0)] [] (.d (.v (.int .i64 r))) [] := by
  rw [vary_check] at h
  refine ACall.intro (N := 24) Tryd.func70 rfl rfl rfl rfl rfl fun e => ?_
  refine T_region [] [0] [] [(0, .d (.str a0))] [] 1 (by kernel_rfl) (trivial) ?_
  refine T_region [] [0, 3] [] [(0, .d (.str a0)), (3, .d (.v (.int .i64 (0 : Int))))] [] 1 (by kernel_rfl) (trivial) ?_
  refine T_seqk ?_
  refine T_region [] [0, 3, 6, 7] [] [(0, .d (.str a0)), (3, .d (.v (.int .i64 (0 : Int)))), (6, .d (.v (.int .i64 (a0.length : Int)))), (7, .d (.v (.int .i64 (0 : Int))))] [] 3 (by kernel_rfl) (trivial) ?_
  refine T_joinct h (fun (p : Int) => [(3, .d (.v (.int .i64 p)))]) (fun s h => ?_) (fun v3 h => ?_)
  · refine T_co [.keep [0, 3, 6, 7]] ((fun (p : Int × Int) => [(0, .d (.str a0)), (3, .d (.v (.int .i64 p.1))), (6, .d (.v (.int .i64 (a0.length : Int)))), (7, .d (.v (.int .i64 p.2)))]) ((0 : Int), (0 : Int))) (by show _ = _; kernel_rfl) ?_
    refine T_block ?_
    refine T_loopF (ι := Int × Int) (fun (p : Int × Int) => [(0, .d (.str a0)), (3, .d (.v (.int .i64 p.1))), (6, .d (.v (.int .i64 (a0.length : Int)))), (7, .d (.v (.int .i64 p.2)))]) (fun n p => vary_check_L0 F a0 n p.1 p.2 = some s) (fun i hh => by simp [vary_check_L0] at hh) (fun n p h => ?_) F ((0 : Int), (0 : Int)) h
    obtain ⟨v1, v2⟩ := p
    have h : vary_check_L0 F a0 (n + 1) v1 v2 = some s := h
    rw [vary_check_L0] at h
    refine T_region [] [0, 3, 6, 7, 8] [] [(0, .d (.str a0)), (3, .d (.v (.int .i64 v1))), (6, .d (.v (.int .i64 (a0.length : Int)))), (7, .d (.v (.int .i64 v2))), (8, .d (.v (.bool (decide (v2 < (a0.length : Int))))))] [] 1 (by kernel_rfl) (trivial) ?_
    refine T_seqk ?_
    refine T_cond (decide (v2 < (a0.length : Int))) (by kernel_rfl) (fun hc => ?_) (fun hc => ?_)
    · have h := cond_tt hc h
      refine T_skip fun a w hm => then_norm (((?_ : T Tryd.prog e 24 _ _ _) a w hm))
      refine T_seqk ?_
      refine T_block ?_
      refine T_region [] [0, 3, 4, 6, 7] [] [(0, .d (.str a0)), (3, .d (.v (.int .i64 v1))), (4, .d (.v (.int .i64 v2))), (6, .d (.v (.int .i64 (a0.length : Int)))), (7, .d (.v (.int .i64 v2)))] [] 2 (by kernel_rfl) (trivial) ?_
      obtain ⟨hp1, h⟩ := chk_ok h
      obtain ⟨z1, hz1, h⟩ := lett_ok h
      refine T_region_end [(7, { rw := some (.d (.v (.int .i64 z1))) })] [0, 3, 6, 7] [] [(0, .d (.str a0)), (3, .d (.v (.int .i64 (z1.tmod (97 : Int))))), (6, .d (.v (.int .i64 (a0.length : Int)))), (7, .d (.v (.int .i64 v2)))] [(4, 0 ≤ v2 ∧ v2 < a0.length), (2, (True) ∧ AV.d (.v (.int .i64 (IntKind.i64.wrap ((IntKind.i64.wrap (v1 * (10 : Int))) + (IntKind.i64.wrap (IntKind.u8.wrap (((a0.getD v2.toNat 0).toNat : Int) - (48 : Int)))))))) = .d (.v (.int .i64 z1))), (0, (97 : Int) ≠ 0)] 1 (by kernel_rfl) (⟨hp1, ⟨trivial, (by subst hz1; rfl)⟩, (show (97 : Int) ≠ 0 by decide)⟩) fun a w hm => inBlock_norm (then_norm (((?_ : T Tryd.prog e 24 _ _ _) a w hm)))
      refine T_region_end [] [0, 3, 6, 7] [] [(0, .d (.str a0)), (3, .d (.v (.int .i64 (z1.tmod (97 : Int))))), (6, .d (.v (.int .i64 (a0.length : Int)))), (7, .d (.v (.int .i64 (IntKind.i64.wrap (v2 + (1 : Int))))))] [] 2 (by kernel_rfl) (trivial) fun a w hm => then_norm (⟨((z1.tmod (97 : Int)), IntKind.i64.wrap (v2 + (1 : Int))), h, hm.co (cs := [.keep [0, 3, 6, 7]]) (by show _ = _; kernel_rfl)⟩)
    · have h := cond_ff hc h
      obtain hs := Option.some.inj h; subst hs
      refine T_exit fun a w hm => then_exit (then_exit (inBlock_exit (then_norm (hm.co (cs := [.keep [3]]) (by show _ = _; kernel_rfl)))))
  · skip
    refine fun a w hm => then_norm (((?_ : T Tryd.prog e 24 _ _ _) a w hm))
    refine T_region [] [2] [] [(2, .d (.v (.int .i64 (IntKind.i64.wrap ((98 : Int) - ((IntKind.i64.wrap (v3 * (100 : Int))).tmod (97 : Int)))))))] [(2, (97 : Int) ≠ 0)] 2 (by kernel_rfl) ((show (97 : Int) ≠ 0 by decide)) ?_
    obtain hs := Option.some.inj h; subst hs
    refine T_ret fun a w hm => T_return (fr' := [(2, .d (.v (.int .i64 (IntKind.i64.wrap ((98 : Int) - ((IntKind.i64.wrap (v3 * (100 : Int))).tmod (97 : Int)))))))]) [2] (by kernel_rfl) [.keep [2]] (by kernel_rfl) (by kernel_rfl) (by kernel_rfl) (by show _ = _; kernel_rfl) (by exact trivial) a w hm

theorem vary_Number_ok {F : Nat} {a0 : Int} {a1 : Int} {r : (List UInt8) × Int} (h : vary_Number F a0 a1 = some r) : ACall Tryd.prog 38 [.d (.v (.int .i64 a0)), .d (.v (.int .i64 a1))] [.glo 4 (glob_internal_strconv_uint64pow10.flatMap (cI .u64))] (.tup [.d (.str r.1), .d (.v (.int .i64 r.2))]) [.glo 4 (glob_internal_strconv_uint64pow10.flatMap (cI .u64))] := by
  rw [vary_Number] at h
  refine ACall.intro (N := 42) Tryd.func38 rfl rfl rfl rfl rfl fun e => ?_
  refine T_region [] [0, 1, 1000000] [] [(0, .d (.v (.int .i64 a0))), (1, .d (.v (.int .i64 a1))), (1000000, .glo 4 (glob_internal_strconv_uint64pow10.flatMap (cI .u64)))] [] 2 (by kernel_rfl) (trivial) ?_
  refine T_seqk ?_
  obtain ⟨z1, hz1, h⟩ := lett_ok h
  refine T_region [(9, { rw := some (.d (.v (.bool z1))) })] [0, 1, 17, 1000000] [] [(0, .d (.v (.int .i64 a0))), (1, .d (.v (.int .i64 a1))), (17, .d (.v (.bool z1))), (1000000, .glo 4 (glob_internal_strconv_uint64pow10.flatMap (cI .u64)))] [(3, ((((decide (a1 < (1 : Int))) == false) && true) = true → True)), (0, ((((decide (a1 < (1 : Int))) == false) && true) = true → True)), (2, ((((bif (decide (a1 < (1 : Int))) then true else (decide (a1 > (12 : Int)))) == false) && true) = true → True)), (0, ((((bif (decide (a1 < (1 : Int))) then true else (decide (a1 > (12 : Int)))) == false) && true) = true → True)), (0, (True) ∧ AV.d (.v (.bool (bif (bif (decide (a1 < (1 : Int))) then true else (decide (a1 > (12 : Int)))) then true else (decide (a0 < (0 : Int)))))) = .d (.v (.bool z1)))] 0 (by kernel_rfl) (⟨(fun hg => trivial), (fun hg => trivial), (fun hg => trivial), (fun hg => trivial), ⟨trivial, (by subst hz1; rfl)⟩⟩) ?_
  refine T_cond z1 (by kernel_rfl) (fun hc => ?_) (fun hc => ?_)
  · have h := cond_tt hc h
    refine T_region [] [4, 5, 1000000] [] [(4, .d (.str [])), (5, .d (.v (.int .i64 (3 : Int)))), (1000000, .glo 4 (glob_internal_strconv_uint64pow10.flatMap (cI .u64)))] [] 2 (by kernel_rfl) (trivial) ?_
    obtain hs := Option.some.inj h; subst hs
    refine T_ret fun a w hm => then_ret (T_return (fr' := [(4, .d (.str [])), (5, .d (.v (.int .i64 (3 : Int)))), (1000000, .glo 4 (glob_internal_strconv_uint64pow10.flatMap (cI .u64)))]) [4, 5] (by kernel_rfl) [.keep [4, 5, 1000000]] (by kernel_rfl) (by kernel_rfl) (by kernel_rfl) (by show _ = _; kernel_rfl) (by exact ⟨⟨by kernel_rfl, by kernel_rfl⟩, trivial⟩) a w hm)
  · have h := cond_ff hc h
    refine T_skip fun a w hm => then_norm (((?_ : T Tryd.prog e 42 _ _ _) a w hm))
    obtain ⟨hp1, h⟩ := chk_ok h
    refine T_region [(1, { res := .d (.str (Lib.itoa a0)), xs := [1000000], vout := [.glo 4 (glob_internal_strconv_uint64pow10.flatMap (cI .u64))] })] [1, 6, 1000000] [] [(1, .d (.v (.int .i64 a1))), (6, .d (.str (Lib.itoa a0))), (1000000, .glo 4 (glob_internal_strconv_uint64pow10.flatMap (cI .u64)))] [(1, ACall Tryd.prog 49 [.d (.v (.int .i64 a0))] [.glo 4 (glob_internal_strconv_uint64pow10.flatMap (cI .u64))] (.d (.str (Lib.itoa a0))) [.glo 4 (glob_internal_strconv_uint64pow10.flatMap (cI .u64))])] 1 (by kernel_rfl) (b_Itoa hp1) ?_
    refine T_seqk ?_
    refine T_region [] [1, 6, 23, 1000000] [] [(1, .d (.v (.int .i64 a1))), (6, .d (.str (Lib.itoa a0))), (23, .d (.v (.bool (decide (((Lib.itoa a0).length : Int) > a1))))), (1000000, .glo 4 (glob_internal_strconv_uint64pow10.flatMap (cI .u64)))] [] 4 (by kernel_rfl) (trivial) ?_
    refine T_cond (decide (((Lib.itoa a0).length : Int) > a1)) (by kernel_rfl) (fun hc => ?_) (fun hc => ?_)
    · have h := cond_tt hc h
      refine T_region [] [4, 5, 1000000] [] [(4, .d (.str [])), (5, .d (.v (.int .i64 (19 : Int)))), (1000000, .glo 4 (glob_internal_strconv_uint64pow10.flatMap (cI .u64)))] [] 2 (by kernel_rfl) (trivial) ?_
      obtain hs := Option.some.inj h; subst hs
      refine T_ret fun a w hm => then_ret (T_return (fr' := [(4, .d (.str [])), (5, .d (.v (.int .i64 (19 : Int)))), (1000000, .glo 4 (glob_internal_strconv_uint64pow10.flatMap (cI .u64)))]) [4, 5] (by kernel_rfl) [.keep [4, 5, 1000000]] (by kernel_rfl) (by kernel_rfl) (by kernel_rfl) (by show _ = _; kernel_rfl) (by exact ⟨⟨by kernel_rfl, by kernel_rfl⟩, trivial⟩) a w hm)
    · have h := cond_ff hc h
      refine T_skip fun a w hm => then_norm (((?_ : T Tryd.prog e 42 _ _ _) a w hm))
      obtain ⟨hp2, h⟩ := chk_ok h
      obtain ⟨hp3, h⟩ := chk_ok h
      obtain ⟨z2, hz2, h⟩ := lett_ok h
      refine T_region [(4, { res := .d (.str (Lib.repeatL ([48] : List UInt8) (IntKind.i64.wrap (a1 - ((Lib.itoa a0).length : Int))).toNat)) }), (6, { rw := some (.d (.str z2)) })] [6, 1000000] [] [(6, .d (.str z2)), (1000000, .glo 4 (glob_internal_strconv_uint64pow10.flatMap (cI .u64)))] [(4, ACall Tryd.prog 69 [.d (.str ([48] : List UInt8)), .d (.v (.int .i64 (IntKind.i64.wrap (a1 - ((Lib.itoa a0).length : Int)))))] [] (.d (.str (Lib.repeatL ([48] : List UInt8) (IntKind.i64.wrap (a1 - ((Lib.itoa a0).length : Int))).toNat))) []), (1, ((Lib.repeatL ([48] : List UInt8) (IntKind.i64.wrap (a1 - ((Lib.itoa a0).length : Int))).toNat).length + (Lib.itoa a0).length ≤ 9223372036854775807) ∧ AV.d (.str ((Lib.repeatL ([48] : List UInt8) (IntKind.i64.wrap (a1 - ((Lib.itoa a0).length : Int))).toNat) ++ (Lib.itoa a0))) = .d (.str z2))] 1 (by kernel_rfl) (⟨b_Repeat hp2, ⟨hp3, (by subst hz2; rfl)⟩⟩) ?_
      obtain ⟨y1, hy1, h⟩ := call_ok h
      obtain ⟨hp4, h⟩ := chk_ok h
      refine T_region [(1, { res := .d (.v (.int .i64 y1)) }), (2, { res := .d (.str (Lib.itoa y1)), xs := [1000000], vout := [.glo 4 (glob_internal_strconv_uint64pow10.flatMap (cI .u64))] })] [6, 7, 1000000] [] [(6, .d (.str z2)), (7, .d (.str (Lib.itoa y1))), (1000000, .glo 4 (glob_internal_strconv_uint64pow10.flatMap (cI .u64)))] [(1, ACall Tryd.prog 70 [.d (.str z2)] [] (.d (.v (.int .i64 y1))) []), (0, ACall Tryd.prog 49 [.d (.v (.int .i64 y1))] [.glo 4 (glob_internal_strconv_uint64pow10.flatMap (cI .u64))] (.d (.str (Lib.itoa y1))) [.glo 4 (glob_internal_strconv_uint64pow10.flatMap (cI .u64))])] 1 (by kernel_rfl) (⟨vary_check_ok hy1, b_Itoa hp4⟩) ?_
      obtain ⟨hp5, h⟩ := chk_ok h
      obtain ⟨hp6, h⟩ := chk_ok h
      obtain ⟨z3, hz3, h⟩ := lett_ok h
      obtain ⟨hp7, h⟩ := chk_ok h
      refine T_region [(4, { res := .d (.str (Lib.repeatL ([48] : List UInt8) (IntKind.i64.wrap ((2 : Int) - ((Lib.itoa y1).length : Int))).toNat)) }), (5, { rw := some (.d (.str z3)) })] [4, 5, 1000000] [] [(4, .d (.str (z3 ++ (Lib.itoa y1)))), (5, .d (.v (.int .i64 (0 : Int)))), (1000000, .glo 4 (glob_internal_strconv_uint64pow10.flatMap (cI .u64)))] [(4, ACall Tryd.prog 69 [.d (.str ([48] : List UInt8)), .d (.v (.int .i64 (IntKind.i64.wrap ((2 : Int) - ((Lib.itoa y1).length : Int)))))] [] (.d (.str (Lib.repeatL ([48] : List UInt8) (IntKind.i64.wrap ((2 : Int) - ((Lib.itoa y1).length : Int))).toNat))) []), (0, (z2.length + (Lib.repeatL ([48] : List UInt8) (IntKind.i64.wrap ((2 : Int) - ((Lib.itoa y1).length : Int))).toNat).length ≤ 9223372036854775807) ∧ AV.d (.str (z2 ++ (Lib.repeatL ([48] : List UInt8) (IntKind.i64.wrap ((2 : Int) - ((Lib.itoa y1).length : Int))).toNat))) = .d (.str z3)), (1, z3.length + (Lib.itoa y1).length ≤ 9223372036854775807)] 2 (by kernel_rfl) (⟨b_Repeat hp5, ⟨hp6, (by subst hz3; rfl)⟩, hp7⟩) ?_
      obtain hs := Option.some.inj h; subst hs
      refine T_ret fun a w hm => T_return (fr' := [(4, .d (.str (z3 ++ (Lib.itoa y1)))), (5, .d (.v (.int .i64 (0 : Int)))), (1000000, .glo 4 (glob_internal_strconv_uint64pow10.flatMap (cI .u64)))]) [4, 5] (by kernel_rfl) [.keep [4, 5, 1000000]] (by kernel_rfl) (by kernel_rfl) (by kernel_rfl) (by show _ = _; kernel_rfl) (by exact ⟨⟨by kernel_rfl, by kernel_rfl⟩, trivial⟩) a w hm

theorem ref3_Decimal_ok {F : Nat} {a0 : Int} {r : (List UInt8)} (h : ref3_Decimal F a0 = some r) : ACall Tryd.prog 54 [.d (.v (.int .i64 a0))] [] (.d (.str r)) [] := by
  rw [ref3_Decimal] at h
  refine ACall.intro (N := 31) Tryd.func54 rfl rfl rfl rfl rfl fun e => ?_
  refine T_region [] [0] [] [(0, .d (.v (.int .i64 a0)))] [] 1 (by kernel_rfl) (trivial) ?_
  refine T_seqk ?_
  refine T_region [] [0, 7] [] [(0, .d (.v (.int .i64 a0))), (7, .d (.v (.bool (a0 == (0 : Int)))))] [] 2 (by kernel_rfl) (trivial) ?_
  refine T_cond (a0 == (0 : Int)) (by kernel_rfl) (fun hc => ?_) (fun hc => ?_)
  · have h := cond_tt hc h
    refine T_region [] [2] [] [(2, .d (.str ([48] : List UInt8)))] [] 1 (by kernel_rfl) (trivial) ?_
    obtain hs := Option.some.inj h; subst hs
    refine T_ret fun a w hm => then_ret (T_return (fr' := [(2, .d (.str ([48] : List UInt8)))]) [2] (by kernel_rfl) [.keep [2]] (by kernel_rfl) (by kernel_rfl) (by kernel_rfl) (by show _ = _; kernel_rfl) (by exact trivial) a w hm)
  · have h := cond_ff hc h
    refine T_skip fun a w hm => then_norm (((?_ : T Tryd.prog e 31 _ _ _) a w hm))
    refine T_region [] [0, 3, 4] [] [(0, .d (.v (.int .i64 a0))), (3, .d (.str [])), (4, .d (.v (.bool (decide (a0 < (0 : Int))))))] [] 4 (by kernel_rfl) (trivial) ?_
    refine T_joinc h (fun (p : (List UInt8)) => [(3, .d (.str p)), (4, .d (.v (.bool (decide (a0 < (0 : Int))))))]) (fun s h => ?_) (fun v4 h => ?_)
    · refine T_co [.keep [0, 3, 4]] ((fun (p : Int × (List UInt8)) => [(0, .d (.v (.int .i64 p.1))), (3, .d (.str p.2)), (4, .d (.v (.bool (decide (a0 < (0 : Int))))))]) (a0, [])) (by show _ = _; kernel_rfl) ?_
      refine T_block ?_
      refine T_loopF (ι := Int × (List UInt8)) (fun (p : Int × (List UInt8)) => [(0, .d (.v (.int .i64 p.1))), (3, .d (.str p.2)), (4, .d (.v (.bool (decide (a0 < (0 : Int))))))]) (fun n p => ref3_Decimal_L0 F n p.1 p.2 = some s) (fun i hh => by simp [ref3_Decimal_L0] at hh) (fun n p h => ?_) F (a0, []) h
      obtain ⟨v1, v2⟩ := p
      have h : ref3_Decimal_L0 F (n + 1) v1 v2 = some s := h
      rw [ref3_Decimal_L0] at h
      refine T_seqk ?_
      refine T_region [] [0, 3, 4, 11] [] [(0, .d (.v (.int .i64 v1))), (3, .d (.str v2)), (4, .d (.v (.bool (decide (a0 < (0 : Int)))))), (11, .d (.v (.bool (v1 != (0 : Int)))))] [] 2 (by kernel_rfl) (trivial) ?_
      refine T_cond (v1 != (0 : Int)) (by kernel_rfl) (fun hc => ?_) (fun hc => ?_)
      · have h := cond_tt hc h
        refine T_skip fun a w hm => then_norm (((?_ : T Tryd.prog e 31 _ _ _) a w hm))
        refine T_block ?_
        refine T_region [] [0, 3, 4, 5] [] [(0, .d (.v (.int .i64 v1))), (3, .d (.str v2)), (4, .d (.v (.bool (decide (a0 < (0 : Int)))))), (5, .d (.v (.int .i64 (v1.tmod (10 : Int)))))] [(1, (10 : Int) ≠ 0)] 1 (by kernel_rfl) ((show (10 : Int) ≠ 0 by decide)) ?_
        refine T_joinc h (fun (p : Int) => [(0, .d (.v (.int .i64 v1))), (3, .d (.str v2)), (4, .d (.v (.bool (decide (a0 < (0 : Int)))))), (5, .d (.v (.int .i64 p)))]) (fun s h => ?_) (fun v3 h => ?_)
        · refine T_region [] [0, 3, 4, 5, 15] [] [(0, .d (.v (.int .i64 v1))), (3, .d (.str v2)), (4, .d (.v (.bool (decide (a0 < (0 : Int)))))), (5, .d (.v (.int .i64 (v1.tmod (10 : Int))))), (15, .d (.v (.bool (decide ((v1.tmod (10 : Int)) < (0 : Int))))))] [] 2 (by kernel_rfl) (trivial) ?_
          refine T_cond (decide ((v1.tmod (10 : Int)) < (0 : Int))) (by kernel_rfl) (fun hc => ?_) (fun hc => ?_)
          · have h := cond_tt hc h
            obtain hs := Option.some.inj h; subst hs
            refine T_region_end [] [0, 3, 4, 5] [] [(0, .d (.v (.int .i64 v1))), (3, .d (.str v2)), (4, .d (.v (.bool (decide (a0 < (0 : Int)))))), (5, .d (.v (.int .i64 (IntKind.i64.wrap (0 - (v1.tmod (10 : Int)))))))] [] 3 (by kernel_rfl) (trivial) fun a w hm => then_norm (hm.co (cs := [.keep [0, 3, 4, 5]]) (by show _ = _; kernel_rfl))
          · have h := cond_ff hc h
            obtain hs := Option.some.inj h; subst hs
            refine T_skip fun a w hm => then_norm (hm.co (cs := [.keep [0, 3, 4, 5]]) (by show _ = _; kernel_rfl))
        · skip
          obtain ⟨hp1, h⟩ := chk_ok h
          obtain ⟨hp2, h⟩ := chk_ok h
          refine T_region [(3, { es := some (([(UInt8.ofNat (IntKind.u8.wrap (IntKind.i64.wrap ((48 : Int) + v3))).toNat)]).map cU) }), (4, { cs := [.str ([(UInt8.ofNat (IntKind.u8.wrap (IntKind.i64.wrap ((48 : Int) + v3))).toNat)])] })] [0, 3, 4] [] [(0, .d (.v (.int .i64 v1))), (3, .d (.str (([(UInt8.ofNat (IntKind.u8.wrap (IntKind.i64.wrap ((48 : Int) + v3))).toNat)]) ++ v2))), (4, .d (.v (.bool (decide (a0 < (0 : Int))))))] [(3, [[Dat.v (.int .u8 (IntKind.u8.wrap (IntKind.i64.wrap ((48 : Int) + v3))))]] = (([(UInt8.ofNat (IntKind.u8.wrap (IntKind.i64.wrap ((48 : Int) + v3))).toNat)]).map cU)), (0, (([(UInt8.ofNat (IntKind.u8.wrap (IntKind.i64.wrap ((48 : Int) + v3))).toNat)]).map cU) = byteCells ([(UInt8.ofNat (IntKind.u8.wrap (IntKind.i64.wrap ((48 : Int) + v3))).toNat)])), (1, ([(UInt8.ofNat (IntKind.u8.wrap (IntKind.i64.wrap ((48 : Int) + v3))).toNat)]).length + v2.length ≤ 9223372036854775807)] 1 (by kernel_rfl) (⟨(lit_u hp1 (rfl : ([] : List (List Dat)) = ([] : List UInt8).map cU)), rfl, hp2⟩) ?_
          refine T_region_end [] [0, 3, 4] [] [(0, .d (.v (.int .i64 (IntKind.i64.wrap (v1.tdiv (10 : Int)))))), (3, .d (.str (([(UInt8.ofNat (IntKind.u8.wrap (IntKind.i64.wrap ((48 : Int) + v3))).toNat)]) ++ v2))), (4, .d (.v (.bool (decide (a0 < (0 : Int))))))] [(1, (10 : Int) ≠ 0)] 1 (by kernel_rfl) ((show (10 : Int) ≠ 0 by decide)) fun a w hm => inBlock_norm (then_norm (⟨(IntKind.i64.wrap (v1.tdiv (10 : Int)), (([(UInt8.ofNat (IntKind.u8.wrap (IntKind.i64.wrap ((48 : Int) + v3))).toNat)]) ++ v2)), h, hm.co (cs := [.keep [0, 3, 4]]) (by show _ = _; kernel_rfl)⟩))
      · have h := cond_ff hc h
        obtain hs := Option.some.inj h; subst hs
        refine T_exit fun a w hm => then_exit (then_exit (inBlock_exit (then_norm (hm.co (cs := [.keep [3, 4]]) (by show _ = _; kernel_rfl)))))
    · skip
      refine T_seqk ?_
      refine T_region [] [3, 27] [] [(3, .d (.str v4)), (27, .d (.v (.bool (decide (a0 < (0 : Int))))))] [] 1 (by kernel_rfl) (trivial) ?_
      refine T_cond (decide (a0 < (0 : Int))) (by kernel_rfl) (fun hc => ?_) (fun hc => ?_)
      · have h := cond_tt hc h
        obtain ⟨hp3, h⟩ := chk_ok h
        refine T_region [] [2] [] [(2, .d (.str (([45] : List UInt8) ++ v4)))] [(1, ([45] : List UInt8).length + v4.length ≤ 9223372036854775807)] 1 (by kernel_rfl) (hp3) ?_
        obtain hs := Option.some.inj h; subst hs
        refine T_ret fun a w hm => then_ret (T_return (fr' := [(2, .d (.str (([45] : List UInt8) ++ v4)))]) [2] (by kernel_rfl) [.keep [2]] (by kernel_rfl) (by kernel_rfl) (by kernel_rfl) (by show _ = _; kernel_rfl) (by exact trivial) a w hm)
      · have h := cond_ff hc h
        refine T_skip fun a w hm => then_norm (((?_ : T Tryd.prog e 31 _ _ _) a w hm))
        refine T_region [] [2] [] [(2, .d (.str v4))] [] 2 (by kernel_rfl) (trivial) ?_
        obtain hs := Option.some.inj h; subst hs
        refine T_ret fun a w hm => T_return (fr' := [(2, .d (.str v4))]) [2] (by kernel_rfl) [.keep [2]] (by kernel_rfl) (by kernel_rfl) (by kernel_rfl) (by show _ = _; kernel_rfl) (by exact trivial) a w hm

theorem ref3_digit_ok {F : Nat} {a0 : Int} {r : Bool} (h : ref3_digit F a0 = some r) : ACall Tryd.prog 52 [.d (.v (.int .u8 a0))] [] (.d (.v (.bool r))) [] := by
  rw [ref3_digit] at h
  refine ACall.intro (N := 9) Tryd.func52 rfl rfl rfl rfl rfl fun e => ?_
  refine T_region [] [0] [] [(0, .d (.v (.int .u8 a0)))] [] 1 (by kernel_rfl) (trivial) ?_
  refine T_region [] [2] [] [(2, .d (.v (.bool (bif (decide (a0 ≥ (48 : Int))) then (decide (a0 ≤ (57 : Int))) else false))))] [(3, ((((decide (a0 ≥ (48 : Int))) == true) && true) = true → True)), (0, ((((decide (a0 ≥ (48 : Int))) == true) && true) = true → True))] 2 (by kernel_rfl) (⟨(fun hg => trivial), (fun hg => trivial)⟩) ?_
  obtain hs := Option.some.inj h; subst hs
  refine T_ret fun a w hm => T_return (fr' := [(2, .d (.v (.bool (bif (decide (a0 ≥ (48 : Int))) then (decide (a0 ≤ (57 : Int))) else false))))]) [2] (by kernel_rfl) [.keep [2]] (by kernel_rfl) (by kernel_rfl) (by kernel_rfl) (by show _ = _; kernel_rfl) (by exact trivial) a w hm

theorem ref3_whole_ok {F : Nat} {a0 : List UInt8} {r : Int} (h : ref3_whole F a0 = some r) : ACall Tryd.prog 71 [.d (.str a0)] [] (.d (.v (.int .i64 r))) [] := by
  rw [ref3_whole] at h
  refine ACall.intro (N := 28) Tryd.func71 rfl rfl rfl rfl rfl fun e => ?_
  refine T_region [] [0] [] [(0, .d (.str a0))] [] 1 (by kernel_rfl) (trivial) ?_
  refine T_seqk ?_
  refine T_region [] [0, 6] [] [(0, .d (.str a0)), (6, .d (.v (.bool (a0 == []))))] [] 2 (by kernel_rfl) (trivial) ?_
  refine T_cond (a0 == []) (by kernel_rfl) (fun hc => ?_) (fun hc => ?_)
  · have h := cond_tt hc h
    refine T_region [] [2] [] [(2, .d (.v (.int .i64 (-1 : Int))))] [] 1 (by kernel_rfl) (trivial) ?_
    obtain hs := Option.some.inj h; subst hs
    refine T_ret fun a w hm => then_ret (T_return (fr' := [(2, .d (.v (.int .i64 (-1 : Int))))]) [2] (by kernel_rfl) [.keep [2]] (by kernel_rfl) (by kernel_rfl) (by kernel_rfl) (by show _ = _; kernel_rfl) (by exact trivial) a w hm)
  · have h := cond_ff hc h
    refine T_skip fun a w hm => then_norm (((?_ : T Tryd.prog e 28 _ _ _) a w hm))
    refine T_region [] [0, 3] [] [(0, .d (.str a0)), (3, .d (.v (.int .i64 (0 : Int))))] [] 1 (by kernel_rfl) (trivial) ?_
    refine T_seqk ?_
    refine T_region [] [0, 3, 8, 9] [] [(0, .d (.str a0)), (3, .d (.v (.int .i64 (0 : Int)))), (8, .d (.v (.int .i64 (a0.length : Int)))), (9, .d (.v (.int .i64 (0 : Int))))] [] 3 (by kernel_rfl) (trivial) ?_
    refine T_joinEt h (fun (p : Int) => [(3, .d (.v (.int .i64 p)))]) (fun s h hk1 => ?_) (fun v3 h => ?_)
    · refine T_co [.keep [0, 3, 8, 9]] ((fun (p : Int × Int) => [(0, .d (.str a0)), (3, .d (.v (.int .i64 p.1))), (8, .d (.v (.int .i64 (a0.length : Int)))), (9, .d (.v (.int .i64 p.2)))]) ((0 : Int), (0 : Int))) (by show _ = _; kernel_rfl) ?_
      refine T_block ?_
      refine T_loopF (ι := Int × Int) (fun (p : Int × Int) => [(0, .d (.str a0)), (3, .d (.v (.int .i64 p.1))), (8, .d (.v (.int .i64 (a0.length : Int)))), (9, .d (.v (.int .i64 p.2)))]) (fun n p => ref3_whole_L0 F a0 n p.1 p.2 = some s) (fun i hh => by simp [ref3_whole_L0] at hh) (fun n p h => ?_) F ((0 : Int), (0 : Int)) h
      obtain ⟨v1, v2⟩ := p
      have h : ref3_whole_L0 F a0 (n + 1) v1 v2 = some s := h
      rw [ref3_whole_L0] at h
      refine T_region [] [0, 3, 8, 9, 10] [] [(0, .d (.str a0)), (3, .d (.v (.int .i64 v1))), (8, .d (.v (.int .i64 (a0.length : Int)))), (9, .d (.v (.int .i64 v2))), (10, .d (.v (.bool (decide (v2 < (a0.length : Int))))))] [] 1 (by kernel_rfl) (trivial) ?_
      refine T_seqk ?_
      refine T_cond (decide (v2 < (a0.length : Int))) (by kernel_rfl) (fun hc => ?_) (fun hc => ?_)
      · have h := cond_tt hc h
        refine T_skip fun a w hm => then_norm (((?_ : T Tryd.prog e 28 _ _ _) a w hm))
        refine T_seqk ?_
        refine T_block ?_
        refine T_region [] [0, 3, 4, 8, 9] [] [(0, .d (.str a0)), (3, .d (.v (.int .i64 v1))), (4, .d (.v (.int .i64 v2))), (8, .d (.v (.int .i64 (a0.length : Int)))), (9, .d (.v (.int .i64 v2)))] [] 2 (by kernel_rfl) (trivial) ?_
        refine T_seqk ?_
        obtain ⟨hp1, h⟩ := chk_ok h
        obtain ⟨y1, hy1, h⟩ := call_ok h
        refine T_region [(3, { res := .d (.v (.bool y1)) })] [0, 3, 4, 8, 9, 16] [] [(0, .d (.str a0)), (3, .d (.v (.int .i64 v1))), (4, .d (.v (.int .i64 v2))), (8, .d (.v (.int .i64 (a0.length : Int)))), (9, .d (.v (.int .i64 v2))), (16, .d (.v (.bool (!y1))))] [(2, 0 ≤ v2 ∧ v2 < a0.length), (0, ACall Tryd.prog 52 [.d (.v (.int .u8 ((a0.getD v2.toNat 0).toNat : Int)))] [] (.d (.v (.bool y1))) [])] 1 (by kernel_rfl) (⟨hp1, ref3_digit_ok hy1⟩) ?_
        refine T_cond (!y1) (by kernel_rfl) (fun hc => ?_) (fun hc => ?_)
        · have h := cond_tt hc h
          refine T_region [] [2] [] [(2, .d (.v (.int .i64 (-1 : Int))))] [] 1 (by kernel_rfl) (trivial) ?_
          obtain hs := Option.some.inj h; subst hs
          have h := callE_esc hk1
          obtain hs := Option.some.inj h; subst hs
          refine T_ret fun a w hm => then_ret (inBlock_ret (then_ret (then_ret (inBlock_ret (then_ret (then_ret (T_return (fr' := [(2, .d (.v (.int .i64 (-1 : Int))))]) [2] (by kernel_rfl) [.keep [2]] (by kernel_rfl) (by kernel_rfl) (by kernel_rfl) (by show _ = _; kernel_rfl) (by exact trivial) a w hm)))))))
        · have h := cond_ff hc h
          refine T_skip fun a w hm => then_norm (((?_ : T Tryd.prog e 28 _ _ _) a w hm))
          obtain ⟨hp2, h⟩ := chk_ok h
          obtain ⟨z1, hz1, h⟩ := lett_ok h
          obtain ⟨z2, hz2, h⟩ := lett_ok h
          refine T_region_end [(6, { rw := some (.d (.v (.int .i64 z1))) }), (8, { rw := some (.d (.v (.int .i64 z2))) })] [0, 3, 8, 9] [] [(0, .d (.str a0)), (3, .d (.v (.int .i64 z2))), (8, .d (.v (.int .i64 (a0.length : Int)))), (9, .d (.v (.int .i64 v2)))] [(4, 0 ≤ v2 ∧ v2 < a0.length), (1, (True) ∧ AV.d (.v (.int .i64 (IntKind.i64.wrap ((IntKind.i64.wrap (v1 * (10 : Int))) + (IntKind.i64.wrap ((a0.getD v2.toNat 0).toNat : Int)))))) = .d (.v (.int .i64 z1))), (1, (True) ∧ AV.d (.v (.int .i64 (if (1099511627776 : Int) < (IntKind.i64.wrap (z1 - (48 : Int))) then (1099511627776 : Int) else (IntKind.i64.wrap (z1 - (48 : Int)))))) = .d (.v (.int .i64 z2)))] 1 (by kernel_rfl) (⟨hp2, ⟨trivial, (by subst hz1; rfl)⟩, ⟨trivial, (by subst hz2; rfl)⟩⟩) fun a w hm => inBlock_norm (then_norm (((?_ : T Tryd.prog e 28 _ _ _) a w hm)))
          refine T_region_end [] [0, 3, 8, 9] [] [(0, .d (.str a0)), (3, .d (.v (.int .i64 z2))), (8, .d (.v (.int .i64 (a0.length : Int)))), (9, .d (.v (.int .i64 (IntKind.i64.wrap (v2 + (1 : Int))))))] [] 2 (by kernel_rfl) (trivial) fun a w hm => then_norm (⟨(z2, IntKind.i64.wrap (v2 + (1 : Int))), h, hm.co (cs := [.keep [0, 3, 8, 9]]) (by show _ = _; kernel_rfl)⟩)
      · have h := cond_ff hc h
        obtain hs := Option.some.inj h; subst hs
        refine T_exit fun a w hm => then_exit (then_exit (inBlock_exit (then_norm (⟨_, rfl, hm.co (cs := [.keep [3]]) (by show _ = _; kernel_rfl)⟩))))
    · skip
      refine fun a w hm => then_norm (((?_ : T Tryd.prog e 28 _ _ _) a w hm))
      refine T_region [] [2] [] [(2, .d (.v (.int .i64 v3)))] [] 2 (by kernel_rfl) (trivial) ?_
      obtain hs := Option.some.inj h; subst hs
      refine T_ret fun a w hm => T_return (fr' := [(2, .d (.v (.int .i64 v3)))]) [2] (by kernel_rfl) [.keep [2]] (by kernel_rfl) (by kernel_rfl) (by kernel_rfl) (by show _ = _; kernel_rfl) (by exact trivial) a w hm

theorem ref3_Numbered_ok {F : Nat} {a0 : Int} {a1 : Int} {r : (List UInt8) × Int} (h : ref3_Numbered F a0 a1 = some r) : ACall Tryd.prog 39 [.d (.v (.int .i64 a0)), .d (.v (.int .i64 a1))] [] (.tup [.d (.str r.1), .d (.v (.int .i64 r.2))]) [] := by
  rw [ref3_Numbered] at h
  refine ACall.intro (N := 54) Tryd.func39 rfl rfl rfl rfl rfl fun e => ?_
  refine T_region [] [0, 1] [] [(0, .d (.v (.int .i64 a0))), (1, .d (.v (.int .i64 a1)))] [] 2 (by kernel_rfl) (trivial) ?_
  refine T_seqk ?_
  obtain ⟨z2, hz1, h⟩ := lett_ok h
  refine T_region [(9, { rw := some (.d (.v (.bool z2))) })] [0, 1, 18] [] [(0, .d (.v (.int .i64 a0))), (1, .d (.v (.int .i64 a1))), (18, .d (.v (.bool z2)))] [(3, ((((decide (a1 < (1 : Int))) == false) && true) = true → True)), (0, ((((decide (a1 < (1 : Int))) == false) && true) = true → True)), (2, ((((bif (decide (a1 < (1 : Int))) then true else (decide (a1 > (12 : Int)))) == false) && true) = true → True)), (0, ((((bif (decide (a1 < (1 : Int))) then true else (decide (a1 > (12 : Int)))) == false) && true) = true → True)), (0, (True) ∧ AV.d (.v (.bool (bif (bif (decide (a1 < (1 : Int))) then true else (decide (a1 > (12 : Int)))) then true else (decide (a0 < (0 : Int)))))) = .d (.v (.bool z2)))] 0 (by kernel_rfl) (⟨(fun hg => trivial), (fun hg => trivial), (fun hg => trivial), (fun hg => trivial), ⟨trivial, (by subst hz1; rfl)⟩⟩) ?_
  refine T_cond z2 (by kernel_rfl) (fun hc => ?_) (fun hc => ?_)
  · have h := cond_tt hc h
    refine T_region [] [4, 5] [] [(4, .d (.str [])), (5, .d (.v (.int .i64 (3 : Int))))] [] 2 (by kernel_rfl) (trivial) ?_
    obtain hs := Option.some.inj h; subst hs
    refine T_ret fun a w hm => then_ret (T_return (fr' := [(4, .d (.str [])), (5, .d (.v (.int .i64 (3 : Int))))]) [4, 5] (by kernel_rfl) [.keep [4, 5]] (by kernel_rfl) (by kernel_rfl) (by kernel_rfl) (by show _ = _; kernel_rfl) (by exact trivial) a w hm)
  · have h := cond_ff hc h
    refine T_skip fun a w hm => then_norm (((?_ : T Tryd.prog e 54 _ _ _) a w hm))
    obtain ⟨y3, hy1, h⟩ := call_ok h
    refine T_region [(1, { res := .d (.str y3) })] [1, 6] [] [(1, .d (.v (.int .i64 a1))), (6, .d (.str y3))] [(1, ACall Tryd.prog 54 [.d (.v (.int .i64 a0))] [] (.d (.str y3)) [])] 1 (by kernel_rfl) (ref3_Decimal_ok hy1) ?_
    refine T_seqk ?_
    refine T_region [] [1, 6, 24] [] [(1, .d (.v (.int .i64 a1))), (6, .d (.str y3)), (24, .d (.v (.bool (decide ((y3.length : Int) > a1)))))] [] 4 (by kernel_rfl) (trivial) ?_
    refine T_cond (decide ((y3.length : Int) > a1)) (by kernel_rfl) (fun hc => ?_) (fun hc => ?_)
    · have h := cond_tt hc h
      refine T_region [] [4, 5] [] [(4, .d (.str [])), (5, .d (.v (.int .i64 (19 : Int))))] [] 2 (by kernel_rfl) (trivial) ?_
      obtain hs := Option.some.inj h; subst hs
      refine T_ret fun a w hm => then_ret (T_return (fr' := [(4, .d (.str [])), (5, .d (.v (.int .i64 (19 : Int))))]) [4, 5] (by kernel_rfl) [.keep [4, 5]] (by kernel_rfl) (by kernel_rfl) (by kernel_rfl) (by show _ = _; kernel_rfl) (by exact trivial) a w hm)
    · have h := cond_ff hc h
      refine T_skip fun a w hm => then_norm (((?_ : T Tryd.prog e 54 _ _ _) a w hm))
      refine T_joinc h (fun (p : (List UInt8)) => [(6, .d (.str p))]) (fun s h => ?_) (fun v2 h => ?_)
      · refine T_co [.keep [1, 6]] ((fun (p : (List UInt8)) => [(1, .d (.v (.int .i64 a1))), (6, .d (.str p))]) y3) (by show _ = _; kernel_rfl) ?_
        refine T_block ?_
        refine T_loopF (ι := (List UInt8)) (fun (p : (List UInt8)) => [(1, .d (.v (.int .i64 a1))), (6, .d (.str p))]) (fun n p => ref3_Numbered_L0 F a1 n p = some s) (fun i hh => by simp [ref3_Numbered_L0] at hh) (fun n v1 h => ?_) F y3 h
        have h : ref3_Numbered_L0 F a1 (n + 1) v1 = some s := h
        rw [ref3_Numbered_L0] at h
        refine T_seqk ?_
        refine T_region [] [1, 6, 28] [] [(1, .d (.v (.int .i64 a1))), (6, .d (.str v1)), (28, .d (.v (.bool (decide ((v1.length : Int) < a1)))))] [] 4 (by kernel_rfl) (trivial) ?_
        refine T_cond (decide ((v1.length : Int) < a1)) (by kernel_rfl) (fun hc => ?_) (fun hc => ?_)
        · have h := cond_tt hc h
          refine T_skip fun a w hm => then_norm (((?_ : T Tryd.prog e 54 _ _ _) a w hm))
          refine T_block ?_
          obtain ⟨hp1, h⟩ := chk_ok h
          refine T_region_end [] [1, 6] [] [(1, .d (.v (.int .i64 a1))), (6, .d (.str (([48] : List UInt8) ++ v1)))] [(1, ([48] : List UInt8).length + v1.length ≤ 9223372036854775807)] 1 (by kernel_rfl) (hp1) fun a w hm => inBlock_norm (then_norm (⟨(([48] : List UInt8) ++ v1), h, hm.co (cs := [.keep [1, 6]]) (by show _ = _; kernel_rfl)⟩))
        · have h := cond_ff hc h
          obtain hs := Option.some.inj h; subst hs
          refine T_exit fun a w hm => then_exit (then_exit (inBlock_exit (then_norm (hm.co (cs := [.keep [6]]) (by show _ = _; kernel_rfl)))))
      · skip
        refine T_seqk ?_
        refine T_region [] [6, 7] [] [(6, .d (.str v2)), (7, .d (.v (.int .i64 (2 : Int))))] [] 1 (by kernel_rfl) (trivial) ?_
        refine T_joinEt h (fun (p : Unit) => []) (fun s h hk1 => ?_) (fun s h => ?_)
        · refine T_co [.keep [6, 7]] ((fun (p : Int) => [(6, .d (.str v2)), (7, .d (.v (.int .i64 p)))]) (2 : Int)) (by show _ = _; kernel_rfl) ?_
          refine T_block ?_
          refine T_loopF (ι := Int) (fun (p : Int) => [(6, .d (.str v2)), (7, .d (.v (.int .i64 p)))]) (fun n p => ref3_Numbered_L2 F v2 n p = some s) (fun i hh => by simp [ref3_Numbered_L2] at hh) (fun n v3 h => ?_) F (2 : Int) h
          have h : ref3_Numbered_L2 F v2 (n + 1) v3 = some s := h
          rw [ref3_Numbered_L2] at h
          refine T_seqk ?_
          refine T_region [] [6, 7, 32] [] [(6, .d (.str v2)), (7, .d (.v (.int .i64 v3))), (32, .d (.v (.bool (decide (v3 ≤ (98 : Int))))))] [] 2 (by kernel_rfl) (trivial) ?_
          refine T_cond (decide (v3 ≤ (98 : Int))) (by kernel_rfl) (fun hc => ?_) (fun hc => ?_)
          · have h := cond_tt hc h
            refine T_skip fun a w hm => then_norm (((?_ : T Tryd.prog e 54 _ _ _) a w hm))
            refine T_seqk ?_
            refine T_block ?_
            obtain ⟨y1, hy2, h⟩ := call_ok h
            refine T_region [(1, { res := .d (.str y1) })] [6, 7, 8] [] [(6, .d (.str v2)), (7, .d (.v (.int .i64 v3))), (8, .d (.str y1))] [(1, ACall Tryd.prog 54 [.d (.v (.int .i64 v3))] [] (.d (.str y1)) [])] 1 (by kernel_rfl) (ref3_Decimal_ok hy2) ?_
            refine T_joinc h (fun (p : (List UInt8)) => [(6, .d (.str v2)), (7, .d (.v (.int .i64 v3))), (8, .d (.str p))]) (fun s h => ?_) (fun v4 h => ?_)
            · refine T_region [] [6, 7, 8, 38] [] [(6, .d (.str v2)), (7, .d (.v (.int .i64 v3))), (8, .d (.str y1)), (38, .d (.v (.bool (decide (v3 < (10 : Int))))))] [] 2 (by kernel_rfl) (trivial) ?_
              refine T_cond (decide (v3 < (10 : Int))) (by kernel_rfl) (fun hc => ?_) (fun hc => ?_)
              · have h := cond_tt hc h
                obtain ⟨hp2, h⟩ := chk_ok h
                obtain hs := Option.some.inj h; subst hs
                refine T_region_end [] [6, 7, 8] [] [(6, .d (.str v2)), (7, .d (.v (.int .i64 v3))), (8, .d (.str (([48] : List UInt8) ++ y1)))] [(1, ([48] : List UInt8).length + y1.length ≤ 9223372036854775807)] 1 (by kernel_rfl) (hp2) fun a w hm => then_norm (hm.co (cs := [.keep [6, 7, 8]]) (by show _ = _; kernel_rfl))
              · have h := cond_ff hc h
                obtain hs := Option.some.inj h; subst hs
                refine T_skip fun a w hm => then_norm (hm.co (cs := [.keep [6, 7, 8]]) (by show _ = _; kernel_rfl))
            · skip
              obtain ⟨y2, hy3, h⟩ := call_ok h
              obtain ⟨z1, hz2, h⟩ := lett_ok h
              refine T_region [(1, { res := .d (.v (.int .i64 y2)) }), (9, { rw := some (.d (.v (.bool z1))) })] [6, 7, 8, 50] [] [(6, .d (.str v2)), (7, .d (.v (.int .i64 v3))), (8, .d (.str v4)), (50, .d (.v (.bool z1)))] [(1, ACall Tryd.prog 71 [.d (.str v2)] [] (.d (.v (.int .i64 y2))) []), (0, (97 : Int) ≠ 0), (1, (97 : Int) ≠ 0), (1, (97 : Int) ≠ 0), (1, (97 : Int) ≠ 0), (0, (True) ∧ AV.d (.v (.bool (((IntKind.i64.wrap ((y2.tmod (97 : Int)) * (100 : Int))).tmod (97 : Int)) == ((IntKind.i64.wrap ((98 : Int) - (v3.tmod (97 : Int)))).tmod (97 : Int))))) = .d (.v (.bool z1)))] 0 (by kernel_rfl) (⟨ref3_whole_ok hy3, (show (97 : Int) ≠ 0 by decide), (show (97 : Int) ≠ 0 by decide), (show (97 : Int) ≠ 0 by decide), (show (97 : Int) ≠ 0 by decide), ⟨trivial, (by subst hz2; rfl)⟩⟩) ?_
              refine T_cond z1 (by kernel_rfl) (fun hc => ?_) (fun hc => ?_)
              · have h := cond_tt hc h
                obtain ⟨hp3, h⟩ := chk_ok h
                refine T_region [] [4, 5] [] [(4, .d (.str (v2 ++ v4))), (5, .d (.v (.int .i64 (0 : Int))))] [(2, v2.length + v4.length ≤ 9223372036854775807)] 2 (by kernel_rfl) (hp3) ?_
                obtain hs := Option.some.inj h; subst hs
                have h := callE_esc hk1
                obtain hs := Option.some.inj h; subst hs
                refine T_ret fun a w hm => inBlock_ret (then_ret (then_ret (inBlock_ret (then_ret (then_ret (T_return (fr' := [(4, .d (.str (v2 ++ v4))), (5, .d (.v (.int .i64 (0 : Int))))]) [4, 5] (by kernel_rfl) [.keep [4, 5]] (by kernel_rfl) (by kernel_rfl) (by kernel_rfl) (by show _ = _; kernel_rfl) (by exact trivial) a w hm))))))
              · have h := cond_ff hc h
                refine T_skip fun a w hm => inBlock_norm (then_norm (((?_ : T Tryd.prog e 54 _ _ _) a w hm)))
                refine T_region_end [] [6, 7] [] [(6, .d (.str v2)), (7, .d (.v (.int .i64 (IntKind.i64.wrap (v3 + (1 : Int))))))] [] 3 (by kernel_rfl) (trivial) fun a w hm => then_norm (⟨IntKind.i64.wrap (v3 + (1 : Int)), h, hm.co (cs := [.keep [6, 7]]) (by show _ = _; kernel_rfl)⟩)
          · have h := cond_ff hc h
            obtain hs := Option.some.inj h; subst hs
            refine T_exit fun a w hm => then_exit (then_exit (inBlock_exit (then_norm (⟨_, rfl, hm.co (cs := [.keep []]) (by show _ = _; kernel_rfl)⟩))))
        · skip
          refine fun a w hm => then_norm (((?_ : T Tryd.prog e 54 _ _ _) a w hm))
          refine T_region [] [4, 5] [] [(4, .d (.str [])), (5, .d (.v (.int .i64 (11 : Int))))] [] 2 (by kernel_rfl) (trivial) ?_
          obtain hs := Option.some.inj h; subst hs
          refine T_ret fun a w hm => T_return (fr' := [(4, .d (.str [])), (5, .d (.v (.int .i64 (11 : Int))))]) [4, 5] (by kernel_rfl) [.keep [4, 5]] (by kernel_rfl) (by kernel_rfl) (by kernel_rfl) (by show _ = _; kernel_rfl) (by exact trivial) a w hm

theorem vary_Verify_c1_ok {F : Nat} {a0 : Int} {r : Bool} (h : vary_Verify_c1 F a0 = some r) : ACall Tryd.prog 73 [.d (.v (.int .i32 a0))] [] (.d (.v (.bool r))) [] := by
  rw [vary_Verify_c1] at h
  refine ACall.intro (N := 9) Tryd.func73 rfl rfl rfl rfl rfl fun e => ?_
  refine T_region [] [0] [] [(0, .d (.v (.int .i32 a0)))] [] 1 (by kernel_rfl) (trivial) ?_
  refine T_region [] [2] [] [(2, .d (.v (.bool (bif (decide (a0 < (48 : Int))) then true else (decide (a0 > (57 : Int)))))))] [(3, ((((decide (a0 < (48 : Int))) == false) && true) = true → True)), (0, ((((decide (a0 < (48 : Int))) == false) && true) = true → True))] 2 (by kernel_rfl) (⟨(fun hg => trivial), (fun hg => trivial)⟩) ?_
  obtain hs := Option.some.inj h; subst hs
  refine T_ret fun a w hm => T_return (fr' := [(2, .d (.v (.bool (bif (decide (a0 < (48 : Int))) then true else (decide (a0 > (57 : Int)))))))]) [2] (by kernel_rfl) [.keep [2]] (by kernel_rfl) (by kernel_rfl) (by kernel_rfl) (by show _ = _; kernel_rfl) (by exact trivial) a w hm

theorem vary_Verify_ok {F : Nat} {a0 : List UInt8} {r : Int × Int} (h : vary_Verify F a0 = some r) : ACall Tryd.prog 40 [.d (.str a0)] [.glo 4 (glob_internal_strconv_uint64pow10.flatMap (cI .u64))] (.tup [.d (.v (.int .i64 r.1)), .d (.v (.int .i64 r.2))]) [.glo 4 (glob_internal_strconv_uint64pow10.flatMap (cI .u64))] := by
  rw [vary_Verify] at h
  refine ACall.intro (N := 41) Tryd.func40 rfl rfl rfl rfl rfl fun e => ?_
  refine T_region [] [0, 1000000] [] [(0, .d (.str a0)), (1000000, .glo 4 (glob_internal_strconv_uint64pow10.flatMap (cI .u64)))] [] 2 (by kernel_rfl) (trivial) ?_
  refine T_seqk ?_
  obtain ⟨z1, hz1, h⟩ := lett_ok h
  obtain ⟨y1, hy1, h⟩ := call_ok h
  refine T_region [(7, { rw := some (.d (.v (.bool z1))) }), (10, { res := .d (.v (.bool y1)) })] [0, 19, 1000000] [] [(0, .d (.str a0)), (19, .d (.v (.bool (bif z1 then true else y1)))), (1000000, .glo 4 (glob_internal_strconv_uint64pow10.flatMap (cI .u64)))] [(4, ((((decide ((a0.length : Int) < (3 : Int))) == false) && true) = true → True)), (0, ((((decide ((a0.length : Int) < (3 : Int))) == false) && true) = true → True)), (0, ((((decide ((a0.length : Int) < (3 : Int))) == false) && true) = true → True)), (0, (True) ∧ AV.d (.v (.bool (bif (decide ((a0.length : Int) < (3 : Int))) then true else (decide ((a0.length : Int) > (14 : Int)))))) = .d (.v (.bool z1))), (1, (((z1 == false) && true) = true → True)), (0, (((z1 == false) && true) = true → ACall Tryd.prog 72 [.d (.str a0), .clo 73 []] [] (.d (.v (.bool y1))) []))] 1 (by kernel_rfl) (⟨(fun hg => trivial), (fun hg => trivial), (fun hg => trivial), ⟨trivial, (by subst hz1; rfl)⟩, (fun hg => trivial), (fun hg => b_ContainsFunc 73 (by kernel_rfl) (by kernel_rfl) (fun _ _ h => vary_Verify_c1_ok h) (gcall_ok hg hy1))⟩) ?_
  refine T_cond (bif z1 then true else y1) (by kernel_rfl) (fun hc => ?_) (fun hc => ?_)
  · have h := cond_tt hc h
    refine T_region [] [2, 3, 1000000] [] [(2, .d (.v (.int .i64 (0 : Int)))), (3, .d (.v (.int .i64 (5 : Int)))), (1000000, .glo 4 (glob_internal_strconv_uint64pow10.flatMap (cI .u64)))] [] 2 (by kernel_rfl) (trivial) ?_
    obtain hs := Option.some.inj h; subst hs
    refine T_ret fun a w hm => then_ret (T_return (fr' := [(2, .d (.v (.int .i64 (0 : Int)))), (3, .d (.v (.int .i64 (5 : Int)))), (1000000, .glo 4 (glob_internal_strconv_uint64pow10.flatMap (cI .u64)))]) [2, 3] (by kernel_rfl) [.keep [2, 3, 1000000]] (by kernel_rfl) (by kernel_rfl) (by kernel_rfl) (by show _ = _; kernel_rfl) (by exact ⟨⟨by kernel_rfl, by kernel_rfl⟩, trivial⟩) a w hm)
  · have h := cond_ff hc h
    refine T_skip fun a w hm => then_norm (((?_ : T Tryd.prog e 41 _ _ _) a w hm))
    obtain ⟨hp1, h⟩ := chk_ok h
    obtain ⟨z2, hz2, h⟩ := lett_ok h
    obtain ⟨hp2, h⟩ := chk_ok h
    obtain ⟨y2, hy2, h⟩ := call_ok h
    refine T_region [(4, { rw := some (.d (.str z2)) }), (5, { res := .tup [.d (.v (.int .i64 y2)), .d (.v .nilIface)] })] [0, 4, 1000000] [] [(0, .d (.str a0)), (4, .d (.v (.int .i64 y2))), (1000000, .glo 4 (glob_internal_strconv_uint64pow10.flatMap (cI .u64)))] [(4, (0 ≤ (0 : Int) ∧ (0 : Int) ≤ (IntKind.i64.wrap ((a0.length : Int) - (2 : Int))) ∧ (IntKind.i64.wrap ((a0.length : Int) - (2 : Int))) ≤ (a0.length : Int)) ∧ AV.d (.str ((a0.drop (0 : Int).toNat).take ((IntKind.i64.wrap ((a0.length : Int) - (2 : Int))).toNat - (0 : Int).toNat))) = .d (.str z2)), (0, ACall Tryd.prog 74 [.d (.str z2)] [] (.tup [.d (.v (.int .i64 y2)), .d (.v .nilIface)]) [])] 5 (by kernel_rfl) (⟨⟨hp1, (by subst hz2; rfl)⟩, b_Atoi hp2 hy2⟩) ?_
    refine T_seqk ?_
    obtain ⟨y3, hy3, h⟩ := call_ok h
    refine T_region [(4, { res := .tup [.d (.str y3.1), .d (.v (.int .i64 y3.2))], vout := [.glo 4 (glob_internal_strconv_uint64pow10.flatMap (cI .u64))], xs := [1000000] })] [0, 4, 6, 1000000] [] [(0, .d (.str a0)), (4, .d (.v (.int .i64 y2))), (6, .d (.str y3.1)), (1000000, .glo 4 (glob_internal_strconv_uint64pow10.flatMap (cI .u64)))] [(4, ACall Tryd.prog 38 [.d (.v (.int .i64 y2)), .d (.v (.int .i64 (IntKind.i64.wrap ((a0.length : Int) - (2 : Int)))))] [.glo 4 (glob_internal_strconv_uint64pow10.flatMap (cI .u64))] (.tup [.d (.str y3.1), .d (.v (.int .i64 y3.2))]) [.glo 4 (glob_internal_strconv_uint64pow10.flatMap (cI .u64))])] 5 (by kernel_rfl) (vary_Number_ok hy3) ?_
    refine T_region [] [4, 39, 1000000] [] [(4, .d (.v (.int .i64 y2))), (39, .d (.v (.bool (!(y3.1 == a0))))), (1000000, .glo 4 (glob_internal_strconv_uint64pow10.flatMap (cI .u64)))] [] 3 (by kernel_rfl) (trivial) ?_
    refine T_cond (!(y3.1 == a0)) (by kernel_rfl) (fun hc => ?_) (fun hc => ?_)
    · have h := cond_tt hc h
      refine T_region [] [2, 3, 1000000] [] [(2, .d (.v (.int .i64 (0 : Int)))), (3, .d (.v (.int .i64 (11 : Int)))), (1000000, .glo 4 (glob_internal_strconv_uint64pow10.flatMap (cI .u64)))] [] 2 (by kernel_rfl) (trivial) ?_
      obtain hs := Option.some.inj h; subst hs
      refine T_ret fun a w hm => then_ret (T_return (fr' := [(2, .d (.v (.int .i64 (0 : Int)))), (3, .d (.v (.int .i64 (11 : Int)))), (1000000, .glo 4 (glob_internal_strconv_uint64pow10.flatMap (cI .u64)))]) [2, 3] (by kernel_rfl) [.keep [2, 3, 1000000]] (by kernel_rfl) (by kernel_rfl) (by kernel_rfl) (by show _ = _; kernel_rfl) (by exact ⟨⟨by kernel_rfl, by kernel_rfl⟩, trivial⟩) a w hm)
    · have h := cond_ff hc h
      refine T_skip fun a w hm => then_norm (((?_ : T Tryd.prog e 41 _ _ _) a w hm))
      refine T_region [] [2, 3, 1000000] [] [(2, .d (.v (.int .i64 y2))), (3, .d (.v (.int .i64 (0 : Int)))), (1000000, .glo 4 (glob_internal_strconv_uint64pow10.flatMap (cI .u64)))] [] 3 (by kernel_rfl) (trivial) ?_
      obtain hs := Option.some.inj h; subst hs
      refine T_ret fun a w hm => T_return (fr' := [(2, .d (.v (.int .i64 y2))), (3, .d (.v (.int .i64 (0 : Int)))), (1000000, .glo 4 (glob_internal_strconv_uint64pow10.flatMap (cI .u64)))]) [2, 3] (by kernel_rfl) [.keep [2, 3, 1000000]] (by kernel_rfl) (by kernel_rfl) (by kernel_rfl) (by show _ = _; kernel_rfl) (by exact ⟨⟨by kernel_rfl, by kernel_rfl⟩, trivial⟩) a w hm

theorem ref3_Digits_ok {F : Nat} {a0 : List UInt8} {r : Int} (h : ref3_Digits F a0 = some r) : ACall Tryd.prog 41 [.d (.str a0)] [] (.d (.v (.int .i64 r))) [] := by
  rw [ref3_Digits] at h
  refine ACall.intro (N := 25) Tryd.func41 rfl rfl rfl rfl rfl fun e => ?_
  refine T_region [] [0] [] [(0, .d (.str a0))] [] 1 (by kernel_rfl) (trivial) ?_
  refine T_region [] [0, 3] [] [(0, .d (.str a0)), (3, .d (.v (.int .i64 (0 : Int))))] [] 1 (by kernel_rfl) (trivial) ?_
  refine T_seqk ?_
  refine T_region [] [0, 3, 6, 7] [] [(0, .d (.str a0)), (3, .d (.v (.int .i64 (0 : Int)))), (6, .d (.v (.int .i64 (a0.length : Int)))), (7, .d (.v (.int .i64 (0 : Int))))] [] 3 (by kernel_rfl) (trivial) ?_
  refine T_joinEt h (fun (p : Int) => [(3, .d (.v (.int .i64 p)))]) (fun s h hk1 => ?_) (fun v3 h => ?_)
  · refine T_co [.keep [0, 3, 6, 7]] ((fun (p : Int × Int) => [(0, .d (.str a0)), (3, .d (.v (.int .i64 p.1))), (6, .d (.v (.int .i64 (a0.length : Int)))), (7, .d (.v (.int .i64 p.2)))]) ((0 : Int), (0 : Int))) (by show _ = _; kernel_rfl) ?_
    refine T_block ?_
    refine T_loopF (ι := Int × Int) (fun (p : Int × Int) => [(0, .d (.str a0)), (3, .d (.v (.int .i64 p.1))), (6, .d (.v (.int .i64 (a0.length : Int)))), (7, .d (.v (.int .i64 p.2)))]) (fun n p => ref3_Digits_L0 F a0 n p.1 p.2 = some s) (fun i hh => by simp [ref3_Digits_L0] at hh) (fun n p h => ?_) F ((0 : Int), (0 : Int)) h
    obtain ⟨v1, v2⟩ := p
    have h : ref3_Digits_L0 F a0 (n + 1) v1 v2 = some s := h
    rw [ref3_Digits_L0] at h
    refine T_region [] [0, 3, 6, 7, 8] [] [(0, .d (.str a0)), (3, .d (.v (.int .i64 v1))), (6, .d (.v (.int .i64 (a0.length : Int)))), (7, .d (.v (.int .i64 v2))), (8, .d (.v (.bool (decide (v2 < (a0.length : Int))))))] [] 1 (by kernel_rfl) (trivial) ?_
    refine T_seqk ?_
    refine T_cond (decide (v2 < (a0.length : Int))) (by kernel_rfl) (fun hc => ?_) (fun hc => ?_)
    · have h := cond_tt hc h
      refine T_skip fun a w hm => then_norm (((?_ : T Tryd.prog e 25 _ _ _) a w hm))
      refine T_seqk ?_
      refine T_block ?_
      refine T_region [] [0, 3, 4, 6, 7] [] [(0, .d (.str a0)), (3, .d (.v (.int .i64 v1))), (4, .d (.v (.int .i64 v2))), (6, .d (.v (.int .i64 (a0.length : Int)))), (7, .d (.v (.int .i64 v2)))] [] 2 (by kernel_rfl) (trivial) ?_
      refine T_seqk ?_
      obtain ⟨hp1, h⟩ := chk_ok h
      obtain ⟨y1, hy1, h⟩ := call_ok h
      refine T_region [(3, { res := .d (.v (.bool y1)) })] [0, 3, 4, 6, 7, 14] [] [(0, .d (.str a0)), (3, .d (.v (.int .i64 v1))), (4, .d (.v (.int .i64 v2))), (6, .d (.v (.int .i64 (a0.length : Int)))), (7, .d (.v (.int .i64 v2))), (14, .d (.v (.bool (!y1))))] [(2, 0 ≤ v2 ∧ v2 < a0.length), (0, ACall Tryd.prog 52 [.d (.v (.int .u8 ((a0.getD v2.toNat 0).toNat : Int)))] [] (.d (.v (.bool y1))) [])] 1 (by kernel_rfl) (⟨hp1, ref3_digit_ok hy1⟩) ?_
      refine T_cond (!y1) (by kernel_rfl) (fun hc => ?_) (fun hc => ?_)
      · have h := cond_tt hc h
        refine T_region [] [2] [] [(2, .d (.v (.int .i64 (-1 : Int))))] [] 1 (by kernel_rfl) (trivial) ?_
        obtain hs := Option.some.inj h; subst hs
        have h := callE_esc hk1
        obtain hs := Option.some.inj h; subst hs
        refine T_ret fun a w hm => then_ret (inBlock_ret (then_ret (then_ret (inBlock_ret (then_ret (then_ret (T_return (fr' := [(2, .d (.v (.int .i64 (-1 : Int))))]) [2] (by kernel_rfl) [.keep [2]] (by kernel_rfl) (by kernel_rfl) (by kernel_rfl) (by show _ = _; kernel_rfl) (by exact trivial) a w hm)))))))
      · have h := cond_ff hc h
        refine T_skip fun a w hm => then_norm (((?_ : T Tryd.prog e 25 _ _ _) a w hm))
        obtain ⟨hp2, h⟩ := chk_ok h
        obtain ⟨z1, hz1, h⟩ := lett_ok h
        refine T_region_end [(6, { rw := some (.d (.v (.int .i64 z1))) })] [0, 3, 6, 7] [] [(0, .d (.str a0)), (3, .d (.v (.int .i64 (IntKind.i64.wrap (z1 - (48 : Int)))))), (6, .d (.v (.int .i64 (a0.length : Int)))), (7, .d (.v (.int .i64 v2)))] [(4, 0 ≤ v2 ∧ v2 < a0.length), (1, (True) ∧ AV.d (.v (.int .i64 (IntKind.i64.wrap ((IntKind.i64.wrap (v1 * (10 : Int))) + (IntKind.i64.wrap ((a0.getD v2.toNat 0).toNat : Int)))))) = .d (.v (.int .i64 z1)))] 2 (by kernel_rfl) (⟨hp2, ⟨trivial, (by subst hz1; rfl)⟩⟩) fun a w hm => inBlock_norm (then_norm (((?_ : T Tryd.prog e 25 _ _ _) a w hm)))
        refine T_region_end [] [0, 3, 6, 7] [] [(0, .d (.str a0)), (3, .d (.v (.int .i64 (IntKind.i64.wrap (z1 - (48 : Int)))))), (6, .d (.v (.int .i64 (a0.length : Int)))), (7, .d (.v (.int .i64 (IntKind.i64.wrap (v2 + (1 : Int))))))] [] 2 (by kernel_rfl) (trivial) fun a w hm => then_norm (⟨(IntKind.i64.wrap (z1 - (48 : Int)), IntKind.i64.wrap (v2 + (1 : Int))), h, hm.co (cs := [.keep [0, 3, 6, 7]]) (by show _ = _; kernel_rfl)⟩)
    · have h := cond_ff hc h
      obtain hs := Option.some.inj h; subst hs
      refine T_exit fun a w hm => then_exit (then_exit (inBlock_exit (then_norm (⟨_, rfl, hm.co (cs := [.keep [3]]) (by show _ = _; kernel_rfl)⟩))))
  · skip
    refine fun a w hm => then_norm (((?_ : T Tryd.prog e 25 _ _ _) a w hm))
    refine T_region [] [2] [] [(2, .d (.v (.int .i64 v3)))] [] 2 (by kernel_rfl) (trivial) ?_
    obtain hs := Option.some.inj h; subst hs
    refine T_ret fun a w hm => T_return (fr' := [(2, .d (.v (.int .i64 v3)))]) [2] (by kernel_rfl) [.keep [2]] (by kernel_rfl) (by kernel_rfl) (by kernel_rfl) (by show _ = _; kernel_rfl) (by exact trivial) a w hm

theorem law3_VaryNumberMatchesReference_ok {F : Nat} {a0 : Int} {a1 : Int} {a2 : List UInt8} {r : Bool} (h : law3_VaryNumberMatchesReference F a0 a1 a2 = some r) : ACall Tryd.prog 10 [.d (.v (.int .i64 a0)), .d (.v (.int .i64 a1)), .d (.str a2)] [.glo 4 (glob_internal_strconv_uint64pow10.flatMap (cI .u64))] (.d (.v (.bool r))) [.glo 4 (glob_internal_strconv_uint64pow10.flatMap (cI .u64))] := by
  rw [law3_VaryNumberMatchesReference] at h
  refine ACall.intro (N := 97) Tryd.func10 rfl rfl rfl rfl rfl fun e => ?_
  refine T_region [] [0, 1, 2, 1000000] [] [(0, .d (.v (.int .i64 a0))), (1, .d (.v (.int .i64 a1))), (2, .d (.str a2)), (1000000, .glo 4 (glob_internal_strconv_uint64pow10.flatMap (cI .u64)))] [] 1 (by kernel_rfl) (trivial) ?_
  refine T_seqk ?_
  obtain ⟨y1, hy1, h⟩ := call_ok h
  refine T_region [(0, { res := .tup [.d (.str y1.1), .d (.v (.int .i64 y1.2))], vout := [.glo 4 (glob_internal_strconv_uint64pow10.flatMap (cI .u64))], xs := [1000000] })] [0, 1, 2, 7, 8, 1000000] [] [(0, .d (.v (.int .i64 a0))), (1, .d (.v (.int .i64 a1))), (2, .d (.str a2)), (7, .d (.str y1.1)), (8, .d (.v (.int .i64 y1.2))), (1000000, .glo 4 (glob_internal_strconv_uint64pow10.flatMap (cI .u64)))] [(0, ACall Tryd.prog 38 [.d (.v (.int .i64 (7 : Int))), .d (.v (.int .i64 (3 : Int)))] [.glo 4 (glob_internal_strconv_uint64pow10.flatMap (cI .u64))] (.tup [.d (.str y1.1), .d (.v (.int .i64 y1.2))]) [.glo 4 (glob_internal_strconv_uint64pow10.flatMap (cI .u64))])] 5 (by kernel_rfl) (vary_Number_ok hy1) ?_
  refine T_region [] [0, 1, 2, 27, 1000000] [] [(0, .d (.v (.int .i64 a0))), (1, .d (.v (.int .i64 a1))), (2, .d (.str a2)), (27, .d (.v (.bool (bif (y1.2 != (0 : Int)) then true else (!(y1.1 == ([48, 48, 55, 55, 55] : List UInt8))))))), (1000000, .glo 4 (glob_internal_strconv_uint64pow10.flatMap (cI .u64)))] [(3, ((((y1.2 != (0 : Int)) == false) && true) = true → True)), (0, ((((y1.2 != (0 : Int)) == false) && true) = true → True))] 1 (by kernel_rfl) (⟨(fun hg => trivial), (fun hg => trivial)⟩) ?_
  refine T_cond (bif (y1.2 != (0 : Int)) then true else (!(y1.1 == ([48, 48, 55, 55, 55] : List UInt8)))) (by kernel_rfl) (fun hc => ?_) (fun hc => ?_)
  · have h := cond_tt hc h
    refine T_region [] [6, 1000000] [] [(6, .d (.v (.bool false))), (1000000, .glo 4 (glob_internal_strconv_uint64pow10.flatMap (cI .u64)))] [] 1 (by kernel_rfl) (trivial) ?_
    obtain hs := Option.some.inj h; subst hs
    refine T_ret fun a w hm => then_ret (T_return (fr' := [(6, .d (.v (.bool false))), (1000000, .glo 4 (glob_internal_strconv_uint64pow10.flatMap (cI .u64)))]) [6] (by kernel_rfl) [.keep [6, 1000000]] (by kernel_rfl) (by kernel_rfl) (by kernel_rfl) (by show _ = _; kernel_rfl) (by exact ⟨⟨by kernel_rfl, by kernel_rfl⟩, trivial⟩) a w hm)
  · have h := cond_ff hc h
    refine T_skip fun a w hm => then_norm (((?_ : T Tryd.prog e 97 _ _ _) a w hm))
    obtain ⟨y2, hy2, h⟩ := call_ok h
    refine T_region [(2, { res := .tup [.d (.str y2.1), .d (.v (.int .i64 y2.2))], vout := [.glo 4 (glob_internal_strconv_uint64pow10.flatMap (cI .u64))], xs := [1000000] })] [0, 1, 2, 9, 10, 1000000] [] [(0, .d (.v (.int .i64 a0))), (1, .d (.v (.int .i64 a1))), (2, .d (.str a2)), (9, .d (.str y2.1)), (10, .d (.v (.int .i64 y2.2))), (1000000, .glo 4 (glob_internal_strconv_uint64pow10.flatMap (cI .u64)))] [(2, ACall Tryd.prog 38 [.d (.v (.int .i64 a0)), .d (.v (.int .i64 a1))] [.glo 4 (glob_internal_strconv_uint64pow10.flatMap (cI .u64))] (.tup [.d (.str y2.1), .d (.v (.int .i64 y2.2))]) [.glo 4 (glob_internal_strconv_uint64pow10.flatMap (cI .u64))])] 5 (by kernel_rfl) (vary_Number_ok hy2) ?_
    obtain ⟨y3, hy3, h⟩ := call_ok h
    refine T_region [(2, { res := .tup [.d (.str y3.1), .d (.v (.int .i64 y3.2))] })] [2, 9, 10, 11, 12, 1000000] [] [(2, .d (.str a2)), (9, .d (.str y2.1)), (10, .d (.v (.int .i64 y2.2))), (11, .d (.str y3.1)), (12, .d (.v (.int .i64 y3.2))), (1000000, .glo 4 (glob_internal_strconv_uint64pow10.flatMap (cI .u64)))] [(2, ACall Tryd.prog 39 [.d (.v (.int .i64 a0)), .d (.v (.int .i64 a1))] [] (.tup [.d (.str y3.1), .d (.v (.int .i64 y3.2))]) [])] 5 (by kernel_rfl) (ref3_Numbered_ok hy3) ?_
    refine T_seqk ?_
    refine T_region [] [2, 47, 1000000] [] [(2, .d (.str a2)), (47, .d (.v (.bool (bif (y2.2 != y3.2) then true else (!(y2.1 == y3.1)))))), (1000000, .glo 4 (glob_internal_strconv_uint64pow10.flatMap (cI .u64)))] [(4, ((((y2.2 != y3.2) == false) && true) = true → True)), (0, ((((y2.2 != y3.2) == false) && true) = true → True)), (0, ((((y2.2 != y3.2) == false) && true) = true → True))] 1 (by kernel_rfl) (⟨(fun hg => trivial), (fun hg => trivial), (fun hg => trivial)⟩) ?_
    refine T_cond (bif (y2.2 != y3.2) then true else (!(y2.1 == y3.1))) (by kernel_rfl) (fun hc => ?_) (fun hc => ?_)
    · have h := cond_tt hc h
      refine T_region [] [6, 1000000] [] [(6, .d (.v (.bool false))), (1000000, .glo 4 (glob_internal_strconv_uint64pow10.flatMap (cI .u64)))] [] 1 (by kernel_rfl) (trivial) ?_
      obtain hs := Option.some.inj h; subst hs
      refine T_ret fun a w hm => then_ret (T_return (fr' := [(6, .d (.v (.bool false))), (1000000, .glo 4 (glob_internal_strconv_uint64pow10.flatMap (cI .u64)))]) [6] (by kernel_rfl) [.keep [6, 1000000]] (by kernel_rfl) (by kernel_rfl) (by kernel_rfl) (by show _ = _; kernel_rfl) (by exact ⟨⟨by kernel_rfl, by kernel_rfl⟩, trivial⟩) a w hm)
    · have h := cond_ff hc h
      refine T_skip fun a w hm => then_norm (((?_ : T Tryd.prog e 97 _ _ _) a w hm))
      obtain ⟨y4, hy4, h⟩ := call_ok h
      refine T_region [(1, { res := .tup [.d (.v (.int .i64 y4.1)), .d (.v (.int .i64 y4.2))], vout := [.glo 4 (glob_internal_strconv_uint64pow10.flatMap (cI .u64))], xs := [1000000] })] [2, 13, 14, 1000000] [] [(2, .d (.str a2)), (13, .d (.v (.int .i64 y4.1))), (14, .d (.v (.int .i64 y4.2))), (1000000, .glo 4 (glob_internal_strconv_uint64pow10.flatMap (cI .u64)))] [(1, ACall Tryd.prog 40 [.d (.str a2)] [.glo 4 (glob_internal_strconv_uint64pow10.flatMap (cI .u64))] (.tup [.d (.v (.int .i64 y4.1)), .d (.v (.int .i64 y4.2))]) [.glo 4 (glob_internal_strconv_uint64pow10.flatMap (cI .u64))])] 5 (by kernel_rfl) (vary_Verify_ok hy4) ?_
      refine T_region [] [2, 13, 14, 15, 1000000] [] [(2, .d (.str a2)), (13, .d (.v (.int .i64 y4.1))), (14, .d (.v (.int .i64 y4.2))), (15, .d (.v (.int .i64 (-1 : Int)))), (1000000, .glo 4 (glob_internal_strconv_uint64pow10.flatMap (cI .u64)))] [] 1 (by kernel_rfl) (trivial) ?_
      refine T_joinc h (fun (p : Int) => [(2, .d (.str a2)), (13, .d (.v (.int .i64 y4.1))), (14, .d (.v (.int .i64 y4.2))), (15, .d (.v (.int .i64 p))), (1000000, .glo 4 (glob_internal_strconv_uint64pow10.flatMap (cI .u64)))]) (fun s h => ?_) (fun v1 h => ?_)
      · obtain ⟨z1, hz1, h⟩ := lett_ok h
        refine T_region [(7, { rw := some (.d (.v (.bool z1))) })] [2, 13, 14, 15, 60, 1000000] [] [(2, .d (.str a2)), (13, .d (.v (.int .i64 y4.1))), (14, .d (.v (.int .i64 y4.2))), (15, .d (.v (.int .i64 (-1 : Int)))), (60, .d (.v (.bool z1))), (1000000, .glo 4 (glob_internal_strconv_uint64pow10.flatMap (cI .u64)))] [(4, ((((decide ((a2.length : Int) ≥ (3 : Int))) == true) && true) = true → True)), (0, ((((decide ((a2.length : Int) ≥ (3 : Int))) == true) && true) = true → True)), (0, ((((decide ((a2.length : Int) ≥ (3 : Int))) == true) && true) = true → True)), (0, (True) ∧ AV.d (.v (.bool (bif (decide ((a2.length : Int) ≥ (3 : Int))) then (decide ((a2.length : Int) ≤ (14 : Int))) else false))) = .d (.v (.bool z1)))] 0 (by kernel_rfl) (⟨(fun hg => trivial), (fun hg => trivial), (fun hg => trivial), ⟨trivial, (by subst hz1; rfl)⟩⟩) ?_
        refine T_cond z1 (by kernel_rfl) (fun hc => ?_) (fun hc => ?_)
        · have h := cond_tt hc h
          obtain ⟨y5, hy5, h⟩ := call_ok h
          obtain hs := Option.some.inj h; subst hs
          refine T_region_end [(1, { res := .d (.v (.int .i64 y5)) })] [2, 13, 14, 15, 1000000] [] [(2, .d (.str a2)), (13, .d (.v (.int .i64 y4.1))), (14, .d (.v (.int .i64 y4.2))), (15, .d (.v (.int .i64 y5))), (1000000, .glo 4 (glob_internal_strconv_uint64pow10.flatMap (cI .u64)))] [(1, ACall Tryd.prog 41 [.d (.str a2)] [] (.d (.v (.int .i64 y5))) [])] 1 (by kernel_rfl) (ref3_Digits_ok hy5) fun a w hm => then_norm (hm.co (cs := [.keep [2, 13, 14, 15, 1000000]]) (by show _ = _; kernel_rfl))
        · have h := cond_ff hc h
          obtain hs := Option.some.inj h; subst hs
          refine T_skip fun a w hm => then_norm (hm.co (cs := [.keep [2, 13, 14, 15, 1000000]]) (by show _ = _; kernel_rfl))
      · skip
        refine T_seqk ?_
        refine T_region [] [2, 13, 14, 15, 64, 1000000] [] [(2, .d (.str a2)), (13, .d (.v (.int .i64 y4.1))), (14, .d (.v (.int .i64 y4.2))), (15, .d (.v (.int .i64 v1))), (64, .d (.v (.bool (decide (v1 < (0 : Int)))))), (1000000, .glo 4 (glob_internal_strconv_uint64pow10.flatMap (cI .u64)))] [] 2 (by kernel_rfl) (trivial) ?_
        refine T_cond (decide (v1 < (0 : Int))) (by kernel_rfl) (fun hc => ?_) (fun hc => ?_)
        · have h := cond_tt hc h
          refine T_region [] [6, 1000000] [] [(6, .d (.v (.bool (bif (y4.2 == (5 : Int)) then (y4.1 == (0 : Int)) else false)))), (1000000, .glo 4 (glob_internal_strconv_uint64pow10.flatMap (cI .u64)))] [(3, ((((y4.2 == (5 : Int)) == true) && true) = true → True)), (0, ((((y4.2 == (5 : Int)) == true) && true) = true → True))] 2 (by kernel_rfl) (⟨(fun hg => trivial), (fun hg => trivial)⟩) ?_
          obtain hs := Option.some.inj h; subst hs
          refine T_ret fun a w hm => then_ret (T_return (fr' := [(6, .d (.v (.bool (bif (y4.2 == (5 : Int)) then (y4.1 == (0 : Int)) else false)))), (1000000, .glo 4 (glob_internal_strconv_uint64pow10.flatMap (cI .u64)))]) [6] (by kernel_rfl) [.keep [6, 1000000]] (by kernel_rfl) (by kernel_rfl) (by kernel_rfl) (by show _ = _; kernel_rfl) (by exact ⟨⟨by kernel_rfl, by kernel_rfl⟩, trivial⟩) a w hm)
        · have h := cond_ff hc h
          refine T_skip fun a w hm => then_norm (((?_ : T Tryd.prog e 97 _ _ _) a w hm))
          obtain ⟨y6, hy6, h⟩ := call_ok h
          refine T_region [(5, { res := .tup [.d (.str y6.1), .d (.v (.int .i64 y6.2))] })] [2, 13, 14, 15, 16, 1000000] [] [(2, .d (.str a2)), (13, .d (.v (.int .i64 y4.1))), (14, .d (.v (.int .i64 y4.2))), (15, .d (.v (.int .i64 v1))), (16, .d (.str y6.1)), (1000000, .glo 4 (glob_internal_strconv_uint64pow10.flatMap (cI .u64)))] [(1, (100 : Int) ≠ 0), (3, ACall Tryd.prog 39 [.d (.v (.int .i64 (IntKind.i64.wrap (v1.tdiv (100 : Int))))), .d (.v (.int .i64 (IntKind.i64.wrap ((a2.length : Int) - (2 : Int)))))] [] (.tup [.d (.str y6.1), .d (.v (.int .i64 y6.2))]) [])] 5 (by kernel_rfl) (⟨(show (100 : Int) ≠ 0 by decide), ref3_Numbered_ok hy6⟩) ?_
          refine T_seqk ?_
          refine T_region [] [13, 14, 15, 82, 1000000] [] [(13, .d (.v (.int .i64 y4.1))), (14, .d (.v (.int .i64 y4.2))), (15, .d (.v (.int .i64 v1))), (82, .d (.v (.bool (!(y6.1 == a2))))), (1000000, .glo 4 (glob_internal_strconv_uint64pow10.flatMap (cI .u64)))] [] 3 (by kernel_rfl) (trivial) ?_
          refine T_cond (!(y6.1 == a2)) (by kernel_rfl) (fun hc => ?_) (fun hc => ?_)
          · have h := cond_tt hc h
            refine T_region [] [6, 1000000] [] [(6, .d (.v (.bool (bif (y4.2 == (11 : Int)) then (y4.1 == (0 : Int)) else false)))), (1000000, .glo 4 (glob_internal_strconv_uint64pow10.flatMap (cI .u64)))] [(3, ((((y4.2 == (11 : Int)) == true) && true) = true → True)), (0, ((((y4.2 == (11 : Int)) == true) && true) = true → True))] 2 (by kernel_rfl) (⟨(fun hg => trivial), (fun hg => trivial)⟩) ?_
            obtain hs := Option.some.inj h; subst hs
            refine T_ret fun a w hm => then_ret (T_return (fr' := [(6, .d (.v (.bool (bif (y4.2 == (11 : Int)) then (y4.1 == (0 : Int)) else false)))), (1000000, .glo 4 (glob_internal_strconv_uint64pow10.flatMap (cI .u64)))]) [6] (by kernel_rfl) [.keep [6, 1000000]] (by kernel_rfl) (by kernel_rfl) (by kernel_rfl) (by show _ = _; kernel_rfl) (by exact ⟨⟨by kernel_rfl, by kernel_rfl⟩, trivial⟩) a w hm)
          · have h := cond_ff hc h
            refine T_skip fun a w hm => then_norm (((?_ : T Tryd.prog e 97 _ _ _) a w hm))
            refine T_region [] [6, 1000000] [] [(6, .d (.v (.bool (bif (y4.2 == (0 : Int)) then (y4.1 == (IntKind.i64.wrap (v1.tdiv (100 : Int)))) else false)))), (1000000, .glo 4 (glob_internal_strconv_uint64pow10.flatMap (cI .u64)))] [(3, ((((y4.2 == (0 : Int)) == true) && true) = true → True)), (0, ((((y4.2 == (0 : Int)) == true) && true) = true → True)), (0, ((((y4.2 == (0 : Int)) == true) && true) = true → (100 : Int) ≠ 0)), (0, ((((y4.2 == (0 : Int)) == true) && true) = true → True))] 2 (by kernel_rfl) (⟨(fun hg => trivial), (fun hg => trivial), (fun hg => (show (100 : Int) ≠ 0 by decide)), (fun hg => trivial)⟩) ?_
            obtain hs := Option.some.inj h; subst hs
            refine T_ret fun a w hm => T_return (fr' := [(6, .d (.v (.bool (bif (y4.2 == (0 : Int)) then (y4.1 == (IntKind.i64.wrap (v1.tdiv (100 : Int)))) else false)))), (1000000, .glo 4 (glob_internal_strconv_uint64pow10.flatMap (cI .u64)))]) [6] (by kernel_rfl) [.keep [6, 1000000]] (by kernel_rfl) (by kernel_rfl) (by kernel_rfl) (by show _ = _; kernel_rfl) (by exact ⟨⟨by kernel_rfl, by kernel_rfl⟩, trivial⟩) a w hm

end Go.Vm.VarG
