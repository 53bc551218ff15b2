import Derived.Test.YtmaolabjdmhinaaDoorLexGP
namespace Go.Vm.LexG
open Go.Proofs
set_option maxRecDepth 20000
theorem ref3_intToken_ok {F : Nat} {a0 : List UInt8} {r : S_Token × Int} (h : ref3_intToken F a0 = some r) : ACall Tryd.prog 78 [.d (.str a0)] [] (.tup [.agg (cS_Token r.1), .d (.v (.int .i64 r.2))]) [] := by
  rw [ref3_intToken] at h
  refine ACall.intro (N := 34) Tryd.func78 rfl rfl rfl rfl rfl fun e => ?_
  refine T_region [] [0, 2] [] [(0, .d (.str a0)), (2, .box [.d (.v (.int .i64 0)), .d (.v (.int .i64 0)), .d (.str []), .d (.v (.int .i64 0)), .d (.v (.int .i64 0))])] [] 2 (by kernel_rfl) (trivial) ?_
  refine T_region [] [0, 2, 4, 5] [] [(0, .d (.str a0)), (2, .box [.d (.v (.int .i64 0)), .d (.v (.int .i64 0)), .d (.str []), .d (.v (.int .i64 0)), .d (.v (.int .i64 0))]), (4, .d (.v (.int .i64 (1 : Int)))), (5, .d (.str a0))] [] 3 (by kernel_rfl) (trivial) ?_
  refine T_joinc h (fun (p : Int) => [(0, .d (.str a0)), (2, .box [.d (.v (.int .i64 0)), .d (.v (.int .i64 0)), .d (.str []), .d (.v (.int .i64 0)), .d (.v (.int .i64 0))]), (4, .d (.v (.int .i64 p))), (5, .d (.str a0))]) (fun s h => ?_) (fun v1 h => ?_)
  · obtain ⟨hp1, h⟩ := chk_ok h
    refine T_region [] [0, 2, 4, 5, 10] [] [(0, .d (.str a0)), (2, .box [.d (.v (.int .i64 0)), .d (.v (.int .i64 0)), .d (.str []), .d (.v (.int .i64 0)), .d (.v (.int .i64 0))]), (4, .d (.v (.int .i64 (1 : Int)))), (5, .d (.str a0)), (10, .d (.v (.bool (((a0.getD (0 : Int).toNat 0).toNat : Int) == (45 : Int)))))] [(1, 0 ≤ (0 : Int) ∧ (0 : Int) < a0.length)] 1 (by kernel_rfl) (hp1) ?_
    refine T_cond (((a0.getD (0 : Int).toNat 0).toNat : Int) == (45 : Int)) (by kernel_rfl) (fun hc => ?_) (fun hc => ?_)
    · have h := cond_tt hc h
      obtain hs := Option.some.inj h; subst hs
      refine T_region_end [] [0, 2, 4, 5] [] [(0, .d (.str a0)), (2, .box [.d (.v (.int .i64 0)), .d (.v (.int .i64 0)), .d (.str []), .d (.v (.int .i64 0)), .d (.v (.int .i64 0))]), (4, .d (.v (.int .i64 (-1 : Int)))), (5, .d (.str a0))] [] 1 (by kernel_rfl) (trivial) fun a w hm => then_norm (hm.co (cs := [.keep [0, 2, 4, 5]]) (by show _ = _; kernel_rfl))
    · have h := cond_ff hc h
      obtain hs := Option.some.inj h; subst hs
      refine T_skip fun a w hm => then_norm (hm.co (cs := [.keep [0, 2, 4, 5]]) (by show _ = _; kernel_rfl))
  · skip
    refine T_joinc h (fun (p : (List UInt8)) => [(2, .box [.d (.v (.int .i64 0)), .d (.v (.int .i64 0)), .d (.str []), .d (.v (.int .i64 0)), .d (.v (.int .i64 0))]), (4, .d (.v (.int .i64 v1))), (5, .d (.str p))]) (fun s h => ?_) (fun v2 h => ?_)
    · obtain ⟨hp2, h⟩ := chk_ok h
      obtain ⟨y1, hy1, h⟩ := call_ok h
      refine T_region [(2, { res := .d (.v (.bool y1)) })] [0, 2, 4, 5, 14] [] [(0, .d (.str a0)), (2, .box [.d (.v (.int .i64 0)), .d (.v (.int .i64 0)), .d (.str []), .d (.v (.int .i64 0)), .d (.v (.int .i64 0))]), (4, .d (.v (.int .i64 v1))), (5, .d (.str a0)), (14, .d (.v (.bool (!y1))))] [(1, 0 ≤ (0 : Int) ∧ (0 : Int) < a0.length), (0, ACall Tryd.prog 52 [.d (.v (.int .u8 ((a0.getD (0 : Int).toNat 0).toNat : Int)))] [] (.d (.v (.bool y1))) [])] 1 (by kernel_rfl) (⟨hp2, ref3_digit_ok hy1⟩) ?_
      refine T_cond (!y1) (by kernel_rfl) (fun hc => ?_) (fun hc => ?_)
      · have h := cond_tt hc h
        obtain ⟨hp3, h⟩ := chk_ok h
        obtain hs := Option.some.inj h; subst hs
        refine T_region_end [] [2, 4, 5] [] [(2, .box [.d (.v (.int .i64 0)), .d (.v (.int .i64 0)), .d (.str []), .d (.v (.int .i64 0)), .d (.v (.int .i64 0))]), (4, .d (.v (.int .i64 v1))), (5, .d (.str ((a0.drop (1 : Int).toNat).take ((a0.length : Int).toNat - (1 : Int).toNat))))] [(1, 0 ≤ (1 : Int) ∧ (1 : Int) ≤ (a0.length : Int) ∧ (a0.length : Int) ≤ (a0.length : Int))] 1 (by kernel_rfl) (hp3) fun a w hm => then_norm (hm.co (cs := [.keep [2, 4, 5]]) (by show _ = _; kernel_rfl))
      · have h := cond_ff hc h
        obtain hs := Option.some.inj h; subst hs
        refine T_skip fun a w hm => then_norm (hm.co (cs := [.keep [2, 4, 5]]) (by show _ = _; kernel_rfl))
    · skip
      obtain ⟨y2, hy2, h⟩ := call_ok h
      refine T_region [(1, { res := .d (.v (.int .i64 y2)) })] [2, 4, 5, 6] [] [(2, .box [.d (.v (.int .i64 0)), .d (.v (.int .i64 0)), .d (.str []), .d (.v (.int .i64 0)), .d (.v (.int .i64 0))]), (4, .d (.v (.int .i64 v1))), (5, .d (.str v2)), (6, .d (.v (.int .i64 y2)))] [(1, ACall Tryd.prog 71 [.d (.str v2)] [] (.d (.v (.int .i64 y2))) [])] 1 (by kernel_rfl) (ref3_whole_ok hy2) ?_
      refine T_seqk ?_
      refine T_region [] [2, 4, 6, 25] [] [(2, .box [.d (.v (.int .i64 0)), .d (.v (.int .i64 0)), .d (.str []), .d (.v (.int .i64 0)), .d (.v (.int .i64 0))]), (4, .d (.v (.int .i64 v1))), (6, .d (.v (.int .i64 y2))), (25, .d (.v (.bool (bif (decide (y2 < (0 : Int))) then true else (decide ((v2.length : Int) > (10 : Int)))))))] [(3, ((((decide (y2 < (0 : Int))) == false) && true) = true → True)), (0, ((((decide (y2 < (0 : Int))) == false) && true) = true → True)), (0, ((((decide (y2 < (0 : Int))) == false) && true) = true → True))] 1 (by kernel_rfl) (⟨(fun hg => trivial), (fun hg => trivial), (fun hg => trivial)⟩) ?_
      refine T_cond (bif (decide (y2 < (0 : Int))) then true else (decide ((v2.length : Int) > (10 : Int)))) (by kernel_rfl) (fun hc => ?_) (fun hc => ?_)
      · have h := cond_tt hc h
        refine T_region [] [2, 3] [] [(2, .box [.d (.v (.int .i64 0)), .d (.v (.int .i64 0)), .d (.str []), .d (.v (.int .i64 0)), .d (.v (.int .i64 0))]), (3, .d (.v (.int .i64 (5 : Int))))] [] 3 (by kernel_rfl) (trivial) ?_
        obtain hs := Option.some.inj h; subst hs
        refine T_ret fun a w hm => then_ret (T_returnC (fr' := [(2, .box [.d (.v (.int .i64 0)), .d (.v (.int .i64 0)), .d (.str []), .d (.v (.int .i64 0)), .d (.v (.int .i64 0))]), (3, .d (.v (.int .i64 (5 : Int))))]) (ts := [34, 3]) (N' := 35) (fr2 := [(34, .agg (cS_Token (S_Token.mk 0 0 [] 0 0)))] ++ [(2, .box [.d (.v (.int .i64 0)), .d (.v (.int .i64 0)), .d (.str []), .d (.v (.int .i64 0)), .d (.v (.int .i64 0))]), (3, .d (.v (.int .i64 (5 : Int))))]) [.keep [2, 3]] (by kernel_rfl) (by kernel_rfl) (by kernel_rfl) (by kernel_rfl) (by show _ = _; kernel_rfl) (by exact trivial) a w hm)
      · have h := cond_ff hc h
        refine T_skip fun a w hm => then_norm (((?_ : T Tryd.prog e 34 _ _ _) a w hm))
        refine T_seqk ?_
        refine T_region [] [2, 4, 6, 28] [] [(2, .box [.d (.v (.int .i64 0)), .d (.v (.int .i64 0)), .d (.str []), .d (.v (.int .i64 0)), .d (.v (.int .i64 0))]), (4, .d (.v (.int .i64 v1))), (6, .d (.v (.int .i64 y2))), (28, .d (.v (.bool (decide (y2 > (2147483647 : Int))))))] [] 2 (by kernel_rfl) (trivial) ?_
        refine T_cond (decide (y2 > (2147483647 : Int))) (by kernel_rfl) (fun hc => ?_) (fun hc => ?_)
        · have h := cond_tt hc h
          refine T_region [] [2, 3] [] [(2, .box [.d (.v (.int .i64 0)), .d (.v (.int .i64 0)), .d (.str []), .d (.v (.int .i64 0)), .d (.v (.int .i64 0))]), (3, .d (.v (.int .i64 (3 : Int))))] [] 3 (by kernel_rfl) (trivial) ?_
          obtain hs := Option.some.inj h; subst hs
          refine T_ret fun a w hm => then_ret (T_returnC (fr' := [(2, .box [.d (.v (.int .i64 0)), .d (.v (.int .i64 0)), .d (.str []), .d (.v (.int .i64 0)), .d (.v (.int .i64 0))]), (3, .d (.v (.int .i64 (3 : Int))))]) (ts := [34, 3]) (N' := 35) (fr2 := [(34, .agg (cS_Token (S_Token.mk 0 0 [] 0 0)))] ++ [(2, .box [.d (.v (.int .i64 0)), .d (.v (.int .i64 0)), .d (.str []), .d (.v (.int .i64 0)), .d (.v (.int .i64 0))]), (3, .d (.v (.int .i64 (3 : Int))))]) [.keep [2, 3]] (by kernel_rfl) (by kernel_rfl) (by kernel_rfl) (by kernel_rfl) (by show _ = _; kernel_rfl) (by exact trivial) a w hm)
        · have h := cond_ff hc h
          refine T_skip fun a w hm => then_norm (((?_ : T Tryd.prog e 34 _ _ _) a w hm))
          refine T_region [] [2, 3] [] [(2, .box [.d (.v (.int .i64 (1 : Int))), .d (.v (.int .i64 (IntKind.i64.wrap (v1 * y2)))), .d (.str []), .d (.v (.int .i64 0)), .d (.v (.int .i64 0))]), (3, .d (.v (.int .i64 (0 : Int))))] [] 6 (by kernel_rfl) (trivial) ?_
          obtain hs := Option.some.inj h; subst hs
          refine T_ret fun a w hm => T_returnC (fr' := [(2, .box [.d (.v (.int .i64 (1 : Int))), .d (.v (.int .i64 (IntKind.i64.wrap (v1 * y2)))), .d (.str []), .d (.v (.int .i64 0)), .d (.v (.int .i64 0))]), (3, .d (.v (.int .i64 (0 : Int))))]) (ts := [34, 3]) (N' := 35) (fr2 := [(34, .agg (cS_Token (S_Token.mk (1 : Int) (IntKind.i64.wrap (v1 * y2)) [] 0 0)))] ++ [(2, .box [.d (.v (.int .i64 (1 : Int))), .d (.v (.int .i64 (IntKind.i64.wrap (v1 * y2)))), .d (.str []), .d (.v (.int .i64 0)), .d (.v (.int .i64 0))]), (3, .d (.v (.int .i64 (0 : Int))))]) [.keep [2, 3]] (by kernel_rfl) (by kernel_rfl) (by kernel_rfl) (by kernel_rfl) (by show _ = _; kernel_rfl) (by exact trivial) a w hm

theorem ref3_letter_ok {F : Nat} {a0 : Int} {r : Bool} (h : ref3_letter F a0 = some r) : ACall Tryd.prog 55 [.d (.v (.int .u8 a0))] [] (.d (.v (.bool r))) [] := by
  rw [ref3_letter] at h
  refine ACall.intro (N := 17) Tryd.func55 rfl rfl rfl rfl rfl fun e => ?_
  refine T_region [] [0] [] [(0, .d (.v (.int .u8 a0)))] [] 1 (by kernel_rfl) (trivial) ?_
  obtain ⟨z1, hz1, h⟩ := lett_ok h
  refine T_region [(13, { rw := some (.d (.v (.bool z1))) })] [2] [] [(2, .d (.v (.bool z1)))] [(3, ((((decide (a0 ≥ (65 : Int))) == true) && true) = true → True)), (0, ((((decide (a0 ≥ (65 : Int))) == true) && true) = true → True)), (2, ((((bif (decide (a0 ≥ (65 : Int))) then (decide (a0 ≤ (90 : Int))) else false) == false) && true) = true → True)), (0, ((((bif (decide (a0 ≥ (65 : Int))) then (decide (a0 ≤ (90 : Int))) else false) == false) && true) = true → True)), (0, ((((bif (decide (a0 ≥ (65 : Int))) then (decide (a0 ≤ (90 : Int))) else false) == false) && true) = true → True)), (0, ((((decide (a0 ≥ (97 : Int))) == true) && (((bif (decide (a0 ≥ (65 : Int))) then (decide (a0 ≤ (90 : Int))) else false) == false) && true)) = true → True)), (0, ((((decide (a0 ≥ (97 : Int))) == true) && (((bif (decide (a0 ≥ (65 : Int))) then (decide (a0 ≤ (90 : Int))) else false) == false) && true)) = true → True)), (0, ((((bif (decide (a0 ≥ (65 : Int))) then (decide (a0 ≤ (90 : Int))) else false) == false) && true) = true → True)), (0, (True) ∧ AV.d (.v (.bool (bif (bif (decide (a0 ≥ (65 : Int))) then (decide (a0 ≤ (90 : Int))) else false) then true else (bif (decide (a0 ≥ (97 : Int))) then (decide (a0 ≤ (122 : Int))) else false)))) = .d (.v (.bool z1)))] 1 (by kernel_rfl) (⟨(fun hg => trivial), (fun hg => trivial), (fun hg => trivial), (fun hg => trivial), (fun hg => trivial), (fun hg => trivial), (fun hg => trivial), (fun hg => trivial), ⟨trivial, (by subst hz1; rfl)⟩⟩) ?_
  obtain hs := Option.some.inj h; subst hs
  refine T_ret fun a w hm => T_return (fr' := [(2, .d (.v (.bool z1)))]) [2] (by kernel_rfl) [.keep [2]] (by kernel_rfl) (by kernel_rfl) (by kernel_rfl) (by show _ = _; kernel_rfl) (by exact trivial) a w hm

theorem ref3_wordError_ok {F : Nat} {a0 : List UInt8} {r : Int} (h : ref3_wordError F a0 = some r) : ACall Tryd.prog 53 [.d (.str a0)] [] (.d (.v (.int .i64 r))) [] := by
  rw [ref3_wordError] at h
  refine ACall.intro (N := 43) Tryd.func53 rfl rfl rfl rfl rfl fun e => ?_
  refine T_region [] [0] [] [(0, .d (.str a0))] [] 1 (by kernel_rfl) (trivial) ?_
  refine T_seqk ?_
  refine T_region [] [0, 5, 6] [] [(0, .d (.str a0)), (5, .d (.v (.int .i64 (a0.length : Int)))), (6, .d (.v (.int .i64 (0 : Int))))] [] 3 (by kernel_rfl) (trivial) ?_
  refine T_joinEt h (fun (p : Unit) => [(0, .d (.str a0))]) (fun s h hk1 => ?_) (fun s h => ?_)
  · refine T_co [.keep [0, 5, 6]] ((fun (p : Int) => [(0, .d (.str a0)), (5, .d (.v (.int .i64 (a0.length : Int)))), (6, .d (.v (.int .i64 p)))]) (0 : Int)) (by show _ = _; kernel_rfl) ?_
    refine T_block ?_
    refine T_loopF (ι := Int) (fun (p : Int) => [(0, .d (.str a0)), (5, .d (.v (.int .i64 (a0.length : Int)))), (6, .d (.v (.int .i64 p)))]) (fun n p => ref3_wordError_L0 F a0 n p = some s) (fun i hh => by simp [ref3_wordError_L0] at hh) (fun n v1 h => ?_) F (0 : Int) h
    have h : ref3_wordError_L0 F a0 (n + 1) v1 = some s := h
    rw [ref3_wordError_L0] at h
    refine T_region [] [0, 5, 6, 7] [] [(0, .d (.str a0)), (5, .d (.v (.int .i64 (a0.length : Int)))), (6, .d (.v (.int .i64 v1))), (7, .d (.v (.bool (decide (v1 < (a0.length : Int))))))] [] 1 (by kernel_rfl) (trivial) ?_
    refine T_seqk ?_
    refine T_cond (decide (v1 < (a0.length : Int))) (by kernel_rfl) (fun hc => ?_) (fun hc => ?_)
    · have h := cond_tt hc h
      refine T_skip fun a w hm => then_norm (((?_ : T Tryd.prog e 43 _ _ _) a w hm))
      refine T_seqk ?_
      refine T_block ?_
      refine T_region [] [0, 3, 5, 6] [] [(0, .d (.str a0)), (3, .d (.v (.int .i64 v1))), (5, .d (.v (.int .i64 (a0.length : Int)))), (6, .d (.v (.int .i64 v1)))] [] 2 (by kernel_rfl) (trivial) ?_
      obtain ⟨hp1, h⟩ := chk_ok h
      obtain ⟨y1, hy1, h⟩ := call_ok h
      obtain ⟨hp2, h⟩ := chk_ok h
      obtain ⟨y2, hy2, h⟩ := call_ok h
      obtain ⟨hp3, h⟩ := chk_ok h
      obtain ⟨z1, hz1, h⟩ := lett_ok h
      obtain ⟨hp4, h⟩ := chk_ok h
      obtain ⟨hp5, h⟩ := chk_ok h
      obtain ⟨z2, hz2, h⟩ := lett_ok h
      refine T_region [(3, { res := .d (.v (.bool y1)) }), (9, { res := .d (.v (.bool y2)) }), (17, { rw := some (.d (.v (.bool z1))) }), (29, { rw := some (.d (.v (.bool z2))) })] [0, 5, 6, 38] [] [(0, .d (.str a0)), (5, .d (.v (.int .i64 (a0.length : Int)))), (6, .d (.v (.int .i64 v1))), (38, .d (.v (.bool z2)))] [(2, 0 ≤ v1 ∧ v1 < a0.length), (0, ACall Tryd.prog 55 [.d (.v (.int .u8 ((a0.getD v1.toNat 0).toNat : Int)))] [] (.d (.v (.bool y1))) []), (2, ((((!y1) == true) && true) = true → True)), (0, ((((!y1) == true) && true) = true → True)), (0, ((((!y1) == true) && true) = true → 0 ≤ v1 ∧ v1 < a0.length)), (0, ((((!y1) == true) && true) = true → ACall Tryd.prog 52 [.d (.v (.int .u8 ((a0.getD v1.toNat 0).toNat : Int)))] [] (.d (.v (.bool y2))) [])), (0, ((((!y1) == true) && true) = true → True)), (2, ((((bif (!y1) then (!y2) else false) == true) && true) = true → True)), (0, ((((bif (!y1) then (!y2) else false) == true) && true) = true → True)), (0, ((((bif (!y1) then (!y2) else false) == true) && true) = true → 0 ≤ v1 ∧ v1 < a0.length)), (0, ((((bif (!y1) then (!y2) else false) == true) && true) = true → True)), (0, (True) ∧ AV.d (.v (.bool (bif (bif (!y1) then (!y2) else false) then (((a0.getD v1.toNat 0).toNat : Int) != (42 : Int)) else false))) = .d (.v (.bool z1))), (1, (((z1 == true) && true) = true → True)), (0, (((z1 == true) && true) = true → True)), (0, (((z1 == true) && true) = true → 0 ≤ v1 ∧ v1 < a0.length)), (0, (((z1 == true) && true) = true → True)), (2, ((((bif z1 then (((a0.getD v1.toNat 0).toNat : Int) != (95 : Int)) else false) == true) && true) = true → True)), (0, ((((bif z1 then (((a0.getD v1.toNat 0).toNat : Int) != (95 : Int)) else false) == true) && true) = true → True)), (0, ((((bif z1 then (((a0.getD v1.toNat 0).toNat : Int) != (95 : Int)) else false) == true) && true) = true → 0 ≤ v1 ∧ v1 < a0.length)), (0, ((((bif z1 then (((a0.getD v1.toNat 0).toNat : Int) != (95 : Int)) else false) == true) && true) = true → True)), (0, (True) ∧ AV.d (.v (.bool (bif (bif z1 then (((a0.getD v1.toNat 0).toNat : Int) != (95 : Int)) else false) then (((a0.getD v1.toNat 0).toNat : Int) != (46 : Int)) else false))) = .d (.v (.bool z2)))] 0 (by kernel_rfl) (⟨hp1, ref3_letter_ok hy1, (fun hg => trivial), (fun hg => trivial), (fun hg => (hp2 hg)), (fun hg => ref3_digit_ok (gcall_ok hg hy2)), (fun hg => trivial), (fun hg => trivial), (fun hg => trivial), (fun hg => (hp3 hg)), (fun hg => trivial), ⟨trivial, (by subst hz1; rfl)⟩, (fun hg => trivial), (fun hg => trivial), (fun hg => (hp4 hg)), (fun hg => trivial), (fun hg => trivial), (fun hg => trivial), (fun hg => (hp5 hg)), (fun hg => trivial), ⟨trivial, (by subst hz2; rfl)⟩⟩) ?_
      refine T_cond z2 (by kernel_rfl) (fun hc => ?_) (fun hc => ?_)
      · have h := cond_tt hc h
        refine T_region [] [2] [] [(2, .d (.v (.int .i64 (5 : Int))))] [] 1 (by kernel_rfl) (trivial) ?_
        obtain hs := Option.some.inj h; subst hs
        have h := callE_esc hk1
        obtain hs := Option.some.inj h; subst hs
        refine T_ret fun a w hm => inBlock_ret (then_ret (then_ret (inBlock_ret (then_ret (then_ret (T_return (fr' := [(2, .d (.v (.int .i64 (5 : Int))))]) [2] (by kernel_rfl) [.keep [2]] (by kernel_rfl) (by kernel_rfl) (by kernel_rfl) (by show _ = _; kernel_rfl) (by exact trivial) a w hm))))))
      · have h := cond_ff hc h
        refine T_skip fun a w hm => inBlock_norm (then_norm (((?_ : T Tryd.prog e 43 _ _ _) a w hm)))
        refine T_region_end [] [0, 5, 6] [] [(0, .d (.str a0)), (5, .d (.v (.int .i64 (a0.length : Int)))), (6, .d (.v (.int .i64 (IntKind.i64.wrap (v1 + (1 : Int))))))] [] 2 (by kernel_rfl) (trivial) fun a w hm => then_norm (⟨IntKind.i64.wrap (v1 + (1 : Int)), h, hm.co (cs := [.keep [0, 5, 6]]) (by show _ = _; kernel_rfl)⟩)
    · have h := cond_ff hc h
      obtain hs := Option.some.inj h; subst hs
      refine T_exit fun a w hm => then_exit (then_exit (inBlock_exit (then_norm (⟨_, rfl, hm.co (cs := [.keep [0]]) (by show _ = _; kernel_rfl)⟩))))
  · skip
    refine fun a w hm => then_norm (((?_ : T Tryd.prog e 43 _ _ _) a w hm))
    refine T_seqk ?_
    refine T_region [] [42] [] [(42, .d (.v (.bool (decide ((a0.length : Int) > (31 : Int))))))] [] 3 (by kernel_rfl) (trivial) ?_
    refine T_cond (decide ((a0.length : Int) > (31 : Int))) (by kernel_rfl) (fun hc => ?_) (fun hc => ?_)
    · have h := cond_tt hc h
      refine T_region [] [2] [] [(2, .d (.v (.int .i64 (2 : Int))))] [] 1 (by kernel_rfl) (trivial) ?_
      obtain hs := Option.some.inj h; subst hs
      refine T_ret fun a w hm => then_ret (T_return (fr' := [(2, .d (.v (.int .i64 (2 : Int))))]) [2] (by kernel_rfl) [.keep [2]] (by kernel_rfl) (by kernel_rfl) (by kernel_rfl) (by show _ = _; kernel_rfl) (by exact trivial) a w hm)
    · have h := cond_ff hc h
      refine T_skip fun a w hm => then_norm (((?_ : T Tryd.prog e 43 _ _ _) a w hm))
      refine T_region [] [2] [] [(2, .d (.v (.int .i64 (0 : Int))))] [] 1 (by kernel_rfl) (trivial) ?_
      obtain hs := Option.some.inj h; subst hs
      refine T_ret fun a w hm => T_return (fr' := [(2, .d (.v (.int .i64 (0 : Int))))]) [2] (by kernel_rfl) [.keep [2]] (by kernel_rfl) (by kernel_rfl) (by kernel_rfl) (by show _ = _; kernel_rfl) (by exact trivial) a w hm

theorem ref3_hex_ok {F : Nat} {a0 : Int} {r : Int} (h : ref3_hex F a0 = some r) : ACall Tryd.prog 107 [.d (.v (.int .u8 a0))] [] (.d (.v (.int .i64 r))) [] := by
  rw [ref3_hex] at h
  refine ACall.intro (N := 28) Tryd.func107 rfl rfl rfl rfl rfl fun e => ?_
  refine T_region [] [0] [] [(0, .d (.v (.int .u8 a0)))] [] 1 (by kernel_rfl) (trivial) ?_
  refine T_seqk ?_
  obtain ⟨hp1, h⟩ := chk_ok h
  obtain ⟨z1, hz1, h⟩ := lett_ok h
  refine T_region [(0, { es := some (([(UInt8.ofNat (48 : Int).toNat), (UInt8.ofNat (49 : Int).toNat), (UInt8.ofNat (50 : Int).toNat), (UInt8.ofNat (51 : Int).toNat), (UInt8.ofNat (52 : Int).toNat), (UInt8.ofNat (53 : Int).toNat), (UInt8.ofNat (54 : Int).toNat), (UInt8.ofNat (55 : Int).toNat), (UInt8.ofNat (56 : Int).toNat), (UInt8.ofNat (57 : Int).toNat), (UInt8.ofNat (97 : Int).toNat), (UInt8.ofNat (98 : Int).toNat), (UInt8.ofNat (99 : Int).toNat), (UInt8.ofNat (100 : Int).toNat), (UInt8.ofNat (101 : Int).toNat), (UInt8.ofNat (102 : Int).toNat)]).map cU) }), (2, { rw := some (.d (.v (.int .i64 z1))) })] [0, 6, 7, 8] [] [(0, .d (.v (.int .u8 a0))), (6, .own 5 1 (([(UInt8.ofNat (48 : Int).toNat), (UInt8.ofNat (49 : Int).toNat), (UInt8.ofNat (50 : Int).toNat), (UInt8.ofNat (51 : Int).toNat), (UInt8.ofNat (52 : Int).toNat), (UInt8.ofNat (53 : Int).toNat), (UInt8.ofNat (54 : Int).toNat), (UInt8.ofNat (55 : Int).toNat), (UInt8.ofNat (56 : Int).toNat), (UInt8.ofNat (57 : Int).toNat), (UInt8.ofNat (97 : Int).toNat), (UInt8.ofNat (98 : Int).toNat), (UInt8.ofNat (99 : Int).toNat), (UInt8.ofNat (100 : Int).toNat), (UInt8.ofNat (101 : Int).toNat), (UInt8.ofNat (102 : Int).toNat)]).map cU)), (7, .d (.v (.int .i64 z1))), (8, .d (.v (.int .i64 (0 : Int))))] [(0, [[Dat.v (.int .u8 (48 : Int))], [Dat.v (.int .u8 (49 : Int))], [Dat.v (.int .u8 (50 : Int))], [Dat.v (.int .u8 (51 : Int))], [Dat.v (.int .u8 (52 : Int))], [Dat.v (.int .u8 (53 : Int))], [Dat.v (.int .u8 (54 : Int))], [Dat.v (.int .u8 (55 : Int))], [Dat.v (.int .u8 (56 : Int))], [Dat.v (.int .u8 (57 : Int))], [Dat.v (.int .u8 (97 : Int))], [Dat.v (.int .u8 (98 : Int))], [Dat.v (.int .u8 (99 : Int))], [Dat.v (.int .u8 (100 : Int))], [Dat.v (.int .u8 (101 : Int))], [Dat.v (.int .u8 (102 : Int))]] = (([(UInt8.ofNat (48 : Int).toNat), (UInt8.ofNat (49 : Int).toNat), (UInt8.ofNat (50 : Int).toNat), (UInt8.ofNat (51 : Int).toNat), (UInt8.ofNat (52 : Int).toNat), (UInt8.ofNat (53 : Int).toNat), (UInt8.ofNat (54 : Int).toNat), (UInt8.ofNat (55 : Int).toNat), (UInt8.ofNat (56 : Int).toNat), (UInt8.ofNat (57 : Int).toNat), (UInt8.ofNat (97 : Int).toNat), (UInt8.ofNat (98 : Int).toNat), (UInt8.ofNat (99 : Int).toNat), (UInt8.ofNat (100 : Int).toNat), (UInt8.ofNat (101 : Int).toNat), (UInt8.ofNat (102 : Int).toNat)]).map cU)), (0, 0 < (([(UInt8.ofNat (48 : Int).toNat), (UInt8.ofNat (49 : Int).toNat), (UInt8.ofNat (50 : Int).toNat), (UInt8.ofNat (51 : Int).toNat), (UInt8.ofNat (52 : Int).toNat), (UInt8.ofNat (53 : Int).toNat), (UInt8.ofNat (54 : Int).toNat), (UInt8.ofNat (55 : Int).toNat), (UInt8.ofNat (56 : Int).toNat), (UInt8.ofNat (57 : Int).toNat), (UInt8.ofNat (97 : Int).toNat), (UInt8.ofNat (98 : Int).toNat), (UInt8.ofNat (99 : Int).toNat), (UInt8.ofNat (100 : Int).toNat), (UInt8.ofNat (101 : Int).toNat), (UInt8.ofNat (102 : Int).toNat)]).map cU).length), (0, True ∧ AV.d (.v (.int .i64 ((([(UInt8.ofNat (48 : Int).toNat), (UInt8.ofNat (49 : Int).toNat), (UInt8.ofNat (50 : Int).toNat), (UInt8.ofNat (51 : Int).toNat), (UInt8.ofNat (52 : Int).toNat), (UInt8.ofNat (53 : Int).toNat), (UInt8.ofNat (54 : Int).toNat), (UInt8.ofNat (55 : Int).toNat), (UInt8.ofNat (56 : Int).toNat), (UInt8.ofNat (57 : Int).toNat), (UInt8.ofNat (97 : Int).toNat), (UInt8.ofNat (98 : Int).toNat), (UInt8.ofNat (99 : Int).toNat), (UInt8.ofNat (100 : Int).toNat), (UInt8.ofNat (101 : Int).toNat), (UInt8.ofNat (102 : Int).toNat)]).map cU).length : Int))) = .d (.v (.int .i64 z1)))] 1 (by kernel_rfl) (⟨(lit_u (by decide) (lit_u (by decide) (lit_u (by decide) (lit_u (by decide) (lit_u (by decide) (lit_u (by decide) (lit_u (by decide) (lit_u (by decide) (lit_u (by decide) (lit_u (by decide) (lit_u (by decide) (lit_u (by decide) (lit_u (by decide) (lit_u (by decide) (lit_u (by decide) (lit_u (by decide) (rfl : ([] : List (List Dat)) = ([] : List UInt8).map cU))))))))))))))))), mark_ok cU hp1, and_trans (len_ok cU) (by subst hz1; rfl)⟩) ?_
  refine T_joinEt h (fun (p : Unit) => []) (fun s h hk1 => ?_) (fun s h => ?_)
  · refine T_co [.keep [0, 6, 7, 8]] ((fun (p : Int) => [(0, .d (.v (.int .u8 a0))), (6, .own 5 1 (([(UInt8.ofNat (48 : Int).toNat), (UInt8.ofNat (49 : Int).toNat), (UInt8.ofNat (50 : Int).toNat), (UInt8.ofNat (51 : Int).toNat), (UInt8.ofNat (52 : Int).toNat), (UInt8.ofNat (53 : Int).toNat), (UInt8.ofNat (54 : Int).toNat), (UInt8.ofNat (55 : Int).toNat), (UInt8.ofNat (56 : Int).toNat), (UInt8.ofNat (57 : Int).toNat), (UInt8.ofNat (97 : Int).toNat), (UInt8.ofNat (98 : Int).toNat), (UInt8.ofNat (99 : Int).toNat), (UInt8.ofNat (100 : Int).toNat), (UInt8.ofNat (101 : Int).toNat), (UInt8.ofNat (102 : Int).toNat)]).map cU)), (7, .d (.v (.int .i64 z1))), (8, .d (.v (.int .i64 p)))]) (0 : Int)) (by show _ = _; kernel_rfl) ?_
    refine T_block ?_
    refine T_loopF (ι := Int) (fun (p : Int) => [(0, .d (.v (.int .u8 a0))), (6, .own 5 1 (([(UInt8.ofNat (48 : Int).toNat), (UInt8.ofNat (49 : Int).toNat), (UInt8.ofNat (50 : Int).toNat), (UInt8.ofNat (51 : Int).toNat), (UInt8.ofNat (52 : Int).toNat), (UInt8.ofNat (53 : Int).toNat), (UInt8.ofNat (54 : Int).toNat), (UInt8.ofNat (55 : Int).toNat), (UInt8.ofNat (56 : Int).toNat), (UInt8.ofNat (57 : Int).toNat), (UInt8.ofNat (97 : Int).toNat), (UInt8.ofNat (98 : Int).toNat), (UInt8.ofNat (99 : Int).toNat), (UInt8.ofNat (100 : Int).toNat), (UInt8.ofNat (101 : Int).toNat), (UInt8.ofNat (102 : Int).toNat)]).map cU)), (7, .d (.v (.int .i64 z1))), (8, .d (.v (.int .i64 p)))]) (fun n p => ref3_hex_L0 F a0 z1 n p = some s) (fun i hh => by simp [ref3_hex_L0] at hh) (fun n v1 h => ?_) F (0 : Int) h
    have h : ref3_hex_L0 F a0 z1 (n + 1) v1 = some s := h
    rw [ref3_hex_L0] at h
    refine T_region [] [0, 6, 7, 8, 9] [] [(0, .d (.v (.int .u8 a0))), (6, .own 5 1 (([(UInt8.ofNat (48 : Int).toNat), (UInt8.ofNat (49 : Int).toNat), (UInt8.ofNat (50 : Int).toNat), (UInt8.ofNat (51 : Int).toNat), (UInt8.ofNat (52 : Int).toNat), (UInt8.ofNat (53 : Int).toNat), (UInt8.ofNat (54 : Int).toNat), (UInt8.ofNat (55 : Int).toNat), (UInt8.ofNat (56 : Int).toNat), (UInt8.ofNat (57 : Int).toNat), (UInt8.ofNat (97 : Int).toNat), (UInt8.ofNat (98 : Int).toNat), (UInt8.ofNat (99 : Int).toNat), (UInt8.ofNat (100 : Int).toNat), (UInt8.ofNat (101 : Int).toNat), (UInt8.ofNat (102 : Int).toNat)]).map cU)), (7, .d (.v (.int .i64 z1))), (8, .d (.v (.int .i64 v1))), (9, .d (.v (.bool (decide (v1 < z1)))))] [] 1 (by kernel_rfl) (trivial) ?_
    refine T_seqk ?_
    refine T_cond (decide (v1 < z1)) (by kernel_rfl) (fun hc => ?_) (fun hc => ?_)
    · have h := cond_tt hc h
      refine T_skip fun a w hm => then_norm (((?_ : T Tryd.prog e 28 _ _ _) a w hm))
      refine T_seqk ?_
      refine T_block ?_
      obtain ⟨hp2, h⟩ := chk_ok h
      obtain ⟨z2, hz2, h⟩ := lett_ok h
      refine T_region [(2, { cs := cU (([(UInt8.ofNat (48 : Int).toNat), (UInt8.ofNat (49 : Int).toNat), (UInt8.ofNat (50 : Int).toNat), (UInt8.ofNat (51 : Int).toNat), (UInt8.ofNat (52 : Int).toNat), (UInt8.ofNat (53 : Int).toNat), (UInt8.ofNat (54 : Int).toNat), (UInt8.ofNat (55 : Int).toNat), (UInt8.ofNat (56 : Int).toNat), (UInt8.ofNat (57 : Int).toNat), (UInt8.ofNat (97 : Int).toNat), (UInt8.ofNat (98 : Int).toNat), (UInt8.ofNat (99 : Int).toNat), (UInt8.ofNat (100 : Int).toNat), (UInt8.ofNat (101 : Int).toNat), (UInt8.ofNat (102 : Int).toNat)]).getD v1.toNat 0), rw := some (.d (.v (.int .u8 z2))) })] [0, 3, 4, 6, 7, 8] [] [(0, .d (.v (.int .u8 a0))), (3, .d (.v (.int .i64 v1))), (4, .d (.v (.int .u8 z2))), (6, .own 5 1 (([(UInt8.ofNat (48 : Int).toNat), (UInt8.ofNat (49 : Int).toNat), (UInt8.ofNat (50 : Int).toNat), (UInt8.ofNat (51 : Int).toNat), (UInt8.ofNat (52 : Int).toNat), (UInt8.ofNat (53 : Int).toNat), (UInt8.ofNat (54 : Int).toNat), (UInt8.ofNat (55 : Int).toNat), (UInt8.ofNat (56 : Int).toNat), (UInt8.ofNat (57 : Int).toNat), (UInt8.ofNat (97 : Int).toNat), (UInt8.ofNat (98 : Int).toNat), (UInt8.ofNat (99 : Int).toNat), (UInt8.ofNat (100 : Int).toNat), (UInt8.ofNat (101 : Int).toNat), (UInt8.ofNat (102 : Int).toNat)]).map cU)), (7, .d (.v (.int .i64 z1))), (8, .d (.v (.int .i64 v1)))] [(1, 0 ≤ v1 ∧ v1 < (([(UInt8.ofNat (48 : Int).toNat), (UInt8.ofNat (49 : Int).toNat), (UInt8.ofNat (50 : Int).toNat), (UInt8.ofNat (51 : Int).toNat), (UInt8.ofNat (52 : Int).toNat), (UInt8.ofNat (53 : Int).toNat), (UInt8.ofNat (54 : Int).toNat), (UInt8.ofNat (55 : Int).toNat), (UInt8.ofNat (56 : Int).toNat), (UInt8.ofNat (57 : Int).toNat), (UInt8.ofNat (97 : Int).toNat), (UInt8.ofNat (98 : Int).toNat), (UInt8.ofNat (99 : Int).toNat), (UInt8.ofNat (100 : Int).toNat), (UInt8.ofNat (101 : Int).toNat), (UInt8.ofNat (102 : Int).toNat)]).map cU).length), (0, ((([(UInt8.ofNat (48 : Int).toNat), (UInt8.ofNat (49 : Int).toNat), (UInt8.ofNat (50 : Int).toNat), (UInt8.ofNat (51 : Int).toNat), (UInt8.ofNat (52 : Int).toNat), (UInt8.ofNat (53 : Int).toNat), (UInt8.ofNat (54 : Int).toNat), (UInt8.ofNat (55 : Int).toNat), (UInt8.ofNat (56 : Int).toNat), (UInt8.ofNat (57 : Int).toNat), (UInt8.ofNat (97 : Int).toNat), (UInt8.ofNat (98 : Int).toNat), (UInt8.ofNat (99 : Int).toNat), (UInt8.ofNat (100 : Int).toNat), (UInt8.ofNat (101 : Int).toNat), (UInt8.ofNat (102 : Int).toNat)]).map cU)[v1.toNat]? = some (cU (([(UInt8.ofNat (48 : Int).toNat), (UInt8.ofNat (49 : Int).toNat), (UInt8.ofNat (50 : Int).toNat), (UInt8.ofNat (51 : Int).toNat), (UInt8.ofNat (52 : Int).toNat), (UInt8.ofNat (53 : Int).toNat), (UInt8.ofNat (54 : Int).toNat), (UInt8.ofNat (55 : Int).toNat), (UInt8.ofNat (56 : Int).toNat), (UInt8.ofNat (57 : Int).toNat), (UInt8.ofNat (97 : Int).toNat), (UInt8.ofNat (98 : Int).toNat), (UInt8.ofNat (99 : Int).toNat), (UInt8.ofNat (100 : Int).toNat), (UInt8.ofNat (101 : Int).toNat), (UInt8.ofNat (102 : Int).toNat)]).getD v1.toNat 0))) ∧ AV.d (.v (.int .u8 ((([(UInt8.ofNat (48 : Int).toNat), (UInt8.ofNat (49 : Int).toNat), (UInt8.ofNat (50 : Int).toNat), (UInt8.ofNat (51 : Int).toNat), (UInt8.ofNat (52 : Int).toNat), (UInt8.ofNat (53 : Int).toNat), (UInt8.ofNat (54 : Int).toNat), (UInt8.ofNat (55 : Int).toNat), (UInt8.ofNat (56 : Int).toNat), (UInt8.ofNat (57 : Int).toNat), (UInt8.ofNat (97 : Int).toNat), (UInt8.ofNat (98 : Int).toNat), (UInt8.ofNat (99 : Int).toNat), (UInt8.ofNat (100 : Int).toNat), (UInt8.ofNat (101 : Int).toNat), (UInt8.ofNat (102 : Int).toNat)]).getD v1.toNat 0).toNat : Int))) = .d (.v (.int .u8 z2)))] 2 (by kernel_rfl) (⟨own_idx cU hp2, ⟨(idx_ok (d := 0) cU hp2).2, (by subst hz2; rfl)⟩⟩) ?_
      obtain ⟨z3, hz3, h⟩ := lett_ok h
      refine T_region [(12, { rw := some (.d (.v (.bool z3))) })] [0, 3, 6, 7, 8, 25] [] [(0, .d (.v (.int .u8 a0))), (3, .d (.v (.int .i64 v1))), (6, .own 5 1 (([(UInt8.ofNat (48 : Int).toNat), (UInt8.ofNat (49 : Int).toNat), (UInt8.ofNat (50 : Int).toNat), (UInt8.ofNat (51 : Int).toNat), (UInt8.ofNat (52 : Int).toNat), (UInt8.ofNat (53 : Int).toNat), (UInt8.ofNat (54 : Int).toNat), (UInt8.ofNat (55 : Int).toNat), (UInt8.ofNat (56 : Int).toNat), (UInt8.ofNat (57 : Int).toNat), (UInt8.ofNat (97 : Int).toNat), (UInt8.ofNat (98 : Int).toNat), (UInt8.ofNat (99 : Int).toNat), (UInt8.ofNat (100 : Int).toNat), (UInt8.ofNat (101 : Int).toNat), (UInt8.ofNat (102 : Int).toNat)]).map cU)), (7, .d (.v (.int .i64 z1))), (8, .d (.v (.int .i64 v1))), (25, .d (.v (.bool z3)))] [(4, ((((a0 == z2) == false) && true) = true → True)), (0, ((((a0 == z2) == false) && true) = true → True)), (0, ((((a0 == z2) == false) && true) = true → True)), (0, ((((decide (v1 > (9 : Int))) == true) && (((a0 == z2) == false) && true)) = true → True)), (0, ((((decide (v1 > (9 : Int))) == true) && (((a0 == z2) == false) && true)) = true → True)), (0, ((((decide (v1 > (9 : Int))) == true) && (((a0 == z2) == false) && true)) = true → True)), (0, ((((decide (v1 > (9 : Int))) == true) && (((a0 == z2) == false) && true)) = true → True)), (0, ((((a0 == z2) == false) && true) = true → True)), (0, (True) ∧ AV.d (.v (.bool (bif (a0 == z2) then true else (bif (decide (v1 > (9 : Int))) then (a0 == (IntKind.u8.wrap (z2 - (32 : Int)))) else false)))) = .d (.v (.bool z3)))] 0 (by kernel_rfl) (⟨(fun hg => trivial), (fun hg => trivial), (fun hg => trivial), (fun hg => trivial), (fun hg => trivial), (fun hg => trivial), (fun hg => trivial), (fun hg => trivial), ⟨trivial, (by subst hz3; rfl)⟩⟩) ?_
      refine T_cond z3 (by kernel_rfl) (fun hc => ?_) (fun hc => ?_)
      · have h := cond_tt hc h
        refine T_region [] [2] [] [(2, .d (.v (.int .i64 v1)))] [] 2 (by kernel_rfl) (trivial) ?_
        obtain hs := Option.some.inj h; subst hs
        have h := callE_esc hk1
        obtain hs := Option.some.inj h; subst hs
        refine T_ret fun a w hm => inBlock_ret (then_ret (then_ret (inBlock_ret (then_ret (then_ret (T_return (fr' := [(2, .d (.v (.int .i64 v1)))]) [2] (by kernel_rfl) [.keep [2]] (by kernel_rfl) (by kernel_rfl) (by kernel_rfl) (by show _ = _; kernel_rfl) (by exact trivial) a w hm))))))
      · have h := cond_ff hc h
        refine T_skip fun a w hm => inBlock_norm (then_norm (((?_ : T Tryd.prog e 28 _ _ _) a w hm)))
        refine T_region_end [] [0, 6, 7, 8] [] [(0, .d (.v (.int .u8 a0))), (6, .own 5 1 (([(UInt8.ofNat (48 : Int).toNat), (UInt8.ofNat (49 : Int).toNat), (UInt8.ofNat (50 : Int).toNat), (UInt8.ofNat (51 : Int).toNat), (UInt8.ofNat (52 : Int).toNat), (UInt8.ofNat (53 : Int).toNat), (UInt8.ofNat (54 : Int).toNat), (UInt8.ofNat (55 : Int).toNat), (UInt8.ofNat (56 : Int).toNat), (UInt8.ofNat (57 : Int).toNat), (UInt8.ofNat (97 : Int).toNat), (UInt8.ofNat (98 : Int).toNat), (UInt8.ofNat (99 : Int).toNat), (UInt8.ofNat (100 : Int).toNat), (UInt8.ofNat (101 : Int).toNat), (UInt8.ofNat (102 : Int).toNat)]).map cU)), (7, .d (.v (.int .i64 z1))), (8, .d (.v (.int .i64 (IntKind.i64.wrap (v1 + (1 : Int))))))] [] 2 (by kernel_rfl) (trivial) fun a w hm => then_norm (⟨IntKind.i64.wrap (v1 + (1 : Int)), h, hm.co (cs := [.keep [0, 6, 7, 8]]) (by show _ = _; kernel_rfl)⟩)
    · have h := cond_ff hc h
      obtain hs := Option.some.inj h; subst hs
      refine T_exit fun a w hm => then_exit (then_exit (inBlock_exit (then_norm (⟨_, rfl, hm.co (cs := [.keep []]) (by show _ = _; kernel_rfl)⟩))))
  · skip
    refine fun a w hm => then_norm (((?_ : T Tryd.prog e 28 _ _ _) a w hm))
    refine T_region [] [2] [] [(2, .d (.v (.int .i64 (-1 : Int))))] [] 1 (by kernel_rfl) (trivial) ?_
    obtain hs := Option.some.inj h; subst hs
    refine T_ret fun a w hm => T_return (fr' := [(2, .d (.v (.int .i64 (-1 : Int))))]) [2] (by kernel_rfl) [.keep [2]] (by kernel_rfl) (by kernel_rfl) (by kernel_rfl) (by show _ = _; kernel_rfl) (by exact trivial) a w hm

theorem ref3_nameToken_ok {F : Nat} {a0 : List UInt8} {r : S_Token × Int} (h : ref3_nameToken F a0 = some r) : ACall Tryd.prog 79 [.d (.str a0)] [] (.tup [.agg (cS_Token r.1), .d (.v (.int .i64 r.2))]) [] := by
  rw [ref3_nameToken] at h
  refine ACall.intro (N := 65) Tryd.func79 rfl rfl rfl rfl rfl fun e => ?_
  refine T_region [] [0, 2] [] [(0, .d (.str a0)), (2, .box [.d (.v (.int .i64 0)), .d (.v (.int .i64 0)), .d (.str []), .d (.v (.int .i64 0)), .d (.v (.int .i64 0))])] [] 2 (by kernel_rfl) (trivial) ?_
  refine T_region [] [0, 2, 4] [] [(0, .d (.str a0)), (2, .box [.d (.v (.int .i64 0)), .d (.v (.int .i64 0)), .d (.str []), .d (.v (.int .i64 0)), .d (.v (.int .i64 0))]), (4, .d (.str []))] [] 1 (by kernel_rfl) (trivial) ?_
  refine T_joinE h (fun (p : (List UInt8)) => [(2, .box [.d (.v (.int .i64 0)), .d (.v (.int .i64 0)), .d (.str []), .d (.v (.int .i64 0)), .d (.v (.int .i64 0))]), (4, .d (.str p))]) (fun s h hk1 => ?_) (fun v5 h => ?_)
  · refine T_co [.keep [0, 2, 4]] ((fun (p : (List UInt8) × (List UInt8)) => [(0, .d (.str p.1)), (2, .box [.d (.v (.int .i64 0)), .d (.v (.int .i64 0)), .d (.str []), .d (.v (.int .i64 0)), .d (.v (.int .i64 0))]), (4, .d (.str p.2))]) (a0, [])) (by show _ = _; kernel_rfl) ?_
    refine T_block ?_
    refine T_loopF (ι := (List UInt8) × (List UInt8)) (fun (p : (List UInt8) × (List UInt8)) => [(0, .d (.str p.1)), (2, .box [.d (.v (.int .i64 0)), .d (.v (.int .i64 0)), .d (.str []), .d (.v (.int .i64 0)), .d (.v (.int .i64 0))]), (4, .d (.str p.2))]) (fun n p => ref3_nameToken_L0 F n p.1 p.2 = some s) (fun i hh => by simp [ref3_nameToken_L0] at hh) (fun n p h => ?_) F (a0, []) h
    obtain ⟨v1, v2⟩ := p
    have h : ref3_nameToken_L0 F (n + 1) v1 v2 = some s := h
    rw [ref3_nameToken_L0] at h
    refine T_seqk ?_
    refine T_region [] [0, 2, 4, 8] [] [(0, .d (.str v1)), (2, .box [.d (.v (.int .i64 0)), .d (.v (.int .i64 0)), .d (.str []), .d (.v (.int .i64 0)), .d (.v (.int .i64 0))]), (4, .d (.str v2)), (8, .d (.v (.bool (!(v1 == [])))))] [] 2 (by kernel_rfl) (trivial) ?_
    refine T_cond (!(v1 == [])) (by kernel_rfl) (fun hc => ?_) (fun hc => ?_)
    · have h := cond_tt hc h
      refine T_skip fun a w hm => then_norm (((?_ : T Tryd.prog e 65 _ _ _) a w hm))
      refine T_block ?_
      obtain ⟨hp1, h⟩ := chk_ok h
      refine T_draw mixed [] [0, 2, 4, 5, 6] [] [(0, .d (.str v1)), (2, .box [.d (.v (.int .i64 0)), .d (.v (.int .i64 0)), .d (.str []), .d (.v (.int .i64 0)), .d (.v (.int .i64 0))]), (4, .d (.str v2)), (5, .d (.v (.int .i64 (1 : Int)))), (6, .d (.v (.int .u8 ((v1.getD (0 : Int).toNat 0).toNat : Int))))] [(1, 0 ≤ (0 : Int) ∧ (0 : Int) < v1.length)] 2 (by kernel_rfl) (hp1) ?_
      refine T_joinE h (fun (p : Int × Int) => [(0, .d (.str v1)), (2, .box [.d (.v (.int .i64 0)), .d (.v (.int .i64 0)), .d (.str []), .d (.v (.int .i64 0)), .d (.v (.int .i64 0))]), (4, .d (.str v2)), (5, .d (.v (.int .i64 p.1))), (6, .d (.v (.int .u8 p.2)))]) (fun s h hk2 => ?_) (fun s h => ?_)
      · refine T_region [] [0, 2, 4, 5, 6, 12] [] [(0, .d (.str v1)), (2, .box [.d (.v (.int .i64 0)), .d (.v (.int .i64 0)), .d (.str []), .d (.v (.int .i64 0)), .d (.v (.int .i64 0))]), (4, .d (.str v2)), (5, .d (.v (.int .i64 (1 : Int)))), (6, .d (.v (.int .u8 ((v1.getD (0 : Int).toNat 0).toNat : Int)))), (12, .d (.v (.bool (((v1.getD (0 : Int).toNat 0).toNat : Int) == (35 : Int)))))] [] 2 (by kernel_rfl) (trivial) ?_
        refine T_cond (((v1.getD (0 : Int).toNat 0).toNat : Int) == (35 : Int)) (by kernel_rfl) (fun hc => ?_) (fun hc => ?_)
        · have h := cond_tt hc h
          refine T_seqk ?_
          obtain ⟨hp2, h⟩ := chk_ok h
          obtain ⟨y1, hy1, h⟩ := call_ok h
          obtain ⟨hp3, h⟩ := chk_ok h
          obtain ⟨y2, hy2, h⟩ := call_ok h
          obtain ⟨z1, hz1, h⟩ := lett_ok h
          refine T_region [(6, { res := .d (.v (.int .i64 y1)) }), (12, { res := .d (.v (.int .i64 y2)) }), (14, { rw := some (.d (.v (.bool z1))) })] [0, 2, 4, 27] [] [(0, .d (.str v1)), (2, .box [.d (.v (.int .i64 0)), .d (.v (.int .i64 0)), .d (.str []), .d (.v (.int .i64 0)), .d (.v (.int .i64 0))]), (4, .d (.str v2)), (27, .d (.v (.bool z1)))] [(4, ((((decide ((v1.length : Int) < (3 : Int))) == false) && true) = true → True)), (0, ((((decide ((v1.length : Int) < (3 : Int))) == false) && true) = true → 0 ≤ (1 : Int) ∧ (1 : Int) < v1.length)), (0, ((((decide ((v1.length : Int) < (3 : Int))) == false) && true) = true → ACall Tryd.prog 107 [.d (.v (.int .u8 ((v1.getD (1 : Int).toNat 0).toNat : Int)))] [] (.d (.v (.int .i64 y1))) [])), (0, ((((decide ((v1.length : Int) < (3 : Int))) == false) && true) = true → True)), (2, ((((bif (decide ((v1.length : Int) < (3 : Int))) then true else (decide (y1 < (0 : Int)))) == false) && true) = true → True)), (0, ((((bif (decide ((v1.length : Int) < (3 : Int))) then true else (decide (y1 < (0 : Int)))) == false) && true) = true → 0 ≤ (2 : Int) ∧ (2 : Int) < v1.length)), (0, ((((bif (decide ((v1.length : Int) < (3 : Int))) then true else (decide (y1 < (0 : Int)))) == false) && true) = true → ACall Tryd.prog 107 [.d (.v (.int .u8 ((v1.getD (2 : Int).toNat 0).toNat : Int)))] [] (.d (.v (.int .i64 y2))) [])), (0, ((((bif (decide ((v1.length : Int) < (3 : Int))) then true else (decide (y1 < (0 : Int)))) == false) && true) = true → True)), (0, (True) ∧ AV.d (.v (.bool (bif (bif (decide ((v1.length : Int) < (3 : Int))) then true else (decide (y1 < (0 : Int)))) then true else (decide (y2 < (0 : Int)))))) = .d (.v (.bool z1)))] 0 (by kernel_rfl) (⟨(fun hg => trivial), (fun hg => (hp2 hg)), (fun hg => ref3_hex_ok (gcall_ok hg hy1)), (fun hg => trivial), (fun hg => trivial), (fun hg => (hp3 hg)), (fun hg => ref3_hex_ok (gcall_ok hg hy2)), (fun hg => trivial), ⟨trivial, (by subst hz1; rfl)⟩⟩) ?_
          refine T_cond z1 (by kernel_rfl) (fun hc => ?_) (fun hc => ?_)
          · have h := cond_tt hc h
            refine T_region [] [2, 3] [] [(2, .box [.d (.v (.int .i64 0)), .d (.v (.int .i64 0)), .d (.str []), .d (.v (.int .i64 0)), .d (.v (.int .i64 0))]), (3, .d (.v (.int .i64 (5 : Int))))] [] 3 (by kernel_rfl) (trivial) ?_
            obtain hs := Option.some.inj h; subst hs
            have h := callE_esc hk2
            obtain hs := Option.some.inj h; subst hs
            have h := callE_esc hk1
            obtain hs := Option.some.inj h; subst hs
            refine T_ret fun a w hm => then_ret (then_ret (inBlock_ret (then_ret (inBlock_ret (then_ret (T_returnC (fr' := [(2, .box [.d (.v (.int .i64 0)), .d (.v (.int .i64 0)), .d (.str []), .d (.v (.int .i64 0)), .d (.v (.int .i64 0))]), (3, .d (.v (.int .i64 (5 : Int))))]) (ts := [65, 3]) (N' := 66) (fr2 := [(65, .agg (cS_Token (S_Token.mk 0 0 [] 0 0)))] ++ [(2, .box [.d (.v (.int .i64 0)), .d (.v (.int .i64 0)), .d (.str []), .d (.v (.int .i64 0)), .d (.v (.int .i64 0))]), (3, .d (.v (.int .i64 (5 : Int))))]) [.keep [2, 3]] (by kernel_rfl) (by kernel_rfl) (by kernel_rfl) (by kernel_rfl) (by show _ = _; kernel_rfl) (by exact trivial) a w hm))))))
          · have h := cond_ff hc h
            refine T_skip fun a w hm => then_norm (((?_ : T Tryd.prog e 65 _ _ _) a w hm))
            obtain ⟨hp4, h⟩ := chk_ok h
            obtain ⟨y3, hy3, h⟩ := call_ok h
            obtain ⟨hp5, h⟩ := chk_ok h
            obtain ⟨y4, hy4, h⟩ := call_ok h
            refine T_drawX mixed 3 (.take 0 (.take 4 (.all (.alt 1 (.all (.alt 2 (.take 3 (.all (.alt 5 (.all (.alt 6 (.take 7 (.take 9 (.all (.alt 8 (.take 10 .done) .stop)))) .stop)) .stop))) (.alt 5 (.all (.alt 2 (.take 3 (.all (.alt 6 (.take 7 (.take 9 (.all (.alt 8 (.take 10 .done) .stop)))) .stop))) .stop)) .stop))) (.alt 5 (.all (.alt 1 (.all (.alt 2 (.take 3 (.all (.alt 6 (.take 7 (.take 9 (.all (.alt 8 (.take 10 .done) .stop)))) .stop))) .stop)) .stop)) .stop))))) ([0, 1, 2, 4, 0, 16, 36, 72, 128, 64, 1023], [0, 1, 2, 4, 0, 16, 32, 72, 128, 0, 256]) 1689 [(2, { res := .d (.v (.int .i64 y3)) }), (6, { res := .d (.v (.int .i64 y4)) })] [0, 2, 4, 5, 6] [] [(0, .d (.str v1)), (2, .box [.d (.v (.int .i64 0)), .d (.v (.int .i64 0)), .d (.str []), .d (.v (.int .i64 0)), .d (.v (.int .i64 0))]), (4, .d (.str v2)), (5, .d (.v (.int .i64 (3 : Int)))), (6, .d (.v (.int .u8 (IntKind.u8.wrap (IntKind.i64.wrap ((IntKind.i64.wrap (y3 * (16 : Int))) + y4))))))] ((fun (o1 : Prop) => fun (o2 : Prop) => fun (o5 : Prop) => fun (o6 : Prop) => [(2, o1), (0, o2), (1, o5), (0, o6), (4, o5), (0, o2), (1, o6), (4, o5), (0, o1), (0, o2), (1, o6)]) (0 ≤ (1 : Int) ∧ (1 : Int) < v1.length) (ACall Tryd.prog 107 [.d (.v (.int .u8 ((v1.getD (1 : Int).toNat 0).toNat : Int)))] [] (.d (.v (.int .i64 y3))) []) (0 ≤ (2 : Int) ∧ (2 : Int) < v1.length) (ACall Tryd.prog 107 [.d (.v (.int .u8 ((v1.getD (2 : Int).toNat 0).toNat : Int)))] [] (.d (.v (.int .i64 y4))) [])) 4 (by kernel_rfl) (by kernel_rfl) (by kernel_rfl) (have p1 := hp4; have p2 := ref3_hex_ok hy3; have p5 := hp5; have p6 := ref3_hex_ok hy4; ⟨p1, p2, p5, p6, p5, p2, p6, p5, p1, p2, p6⟩) ?_
            refine T_region [] [0, 2, 4, 5, 6, 39] [] [(0, .d (.str v1)), (2, .box [.d (.v (.int .i64 0)), .d (.v (.int .i64 0)), .d (.str []), .d (.v (.int .i64 0)), .d (.v (.int .i64 0))]), (4, .d (.str v2)), (5, .d (.v (.int .i64 (3 : Int)))), (6, .d (.v (.int .u8 (IntKind.u8.wrap (IntKind.i64.wrap ((IntKind.i64.wrap (y3 * (16 : Int))) + y4)))))), (39, .d (.v (.bool ((IntKind.u8.wrap (IntKind.i64.wrap ((IntKind.i64.wrap (y3 * (16 : Int))) + y4))) == (0 : Int)))))] [] 2 (by kernel_rfl) (trivial) ?_
            refine T_cond ((IntKind.u8.wrap (IntKind.i64.wrap ((IntKind.i64.wrap (y3 * (16 : Int))) + y4))) == (0 : Int)) (by kernel_rfl) (fun hc => ?_) (fun hc => ?_)
            · have h := cond_tt hc h
              refine T_region [] [2, 3] [] [(2, .box [.d (.v (.int .i64 0)), .d (.v (.int .i64 0)), .d (.str []), .d (.v (.int .i64 0)), .d (.v (.int .i64 0))]), (3, .d (.v (.int .i64 (5 : Int))))] [] 3 (by kernel_rfl) (trivial) ?_
              obtain hs := Option.some.inj h; subst hs
              have h := callE_esc hk2
              obtain hs := Option.some.inj h; subst hs
              have h := callE_esc hk1
              obtain hs := Option.some.inj h; subst hs
              refine T_ret fun a w hm => then_ret (inBlock_ret (then_ret (inBlock_ret (then_ret (T_returnC (fr' := [(2, .box [.d (.v (.int .i64 0)), .d (.v (.int .i64 0)), .d (.str []), .d (.v (.int .i64 0)), .d (.v (.int .i64 0))]), (3, .d (.v (.int .i64 (5 : Int))))]) (ts := [65, 3]) (N' := 66) (fr2 := [(65, .agg (cS_Token (S_Token.mk 0 0 [] 0 0)))] ++ [(2, .box [.d (.v (.int .i64 0)), .d (.v (.int .i64 0)), .d (.str []), .d (.v (.int .i64 0)), .d (.v (.int .i64 0))]), (3, .d (.v (.int .i64 (5 : Int))))]) [.keep [2, 3]] (by kernel_rfl) (by kernel_rfl) (by kernel_rfl) (by kernel_rfl) (by show _ = _; kernel_rfl) (by exact trivial) a w hm)))))
            · have h := cond_ff hc h
              obtain hs := Option.some.inj h; subst hs
              refine T_skip fun a w hm => then_norm (⟨_, rfl, hm.co (cs := [.keep [0, 2, 4, 5, 6]]) (by show _ = _; kernel_rfl)⟩)
        · have h := cond_ff hc h
          obtain ⟨z2, hz2, h⟩ := lett_ok h
          refine T_region [(5, { rw := some (.d (.v (.bool z2))) })] [0, 2, 4, 5, 6, 46] [] [(0, .d (.str v1)), (2, .box [.d (.v (.int .i64 0)), .d (.v (.int .i64 0)), .d (.str []), .d (.v (.int .i64 0)), .d (.v (.int .i64 0))]), (4, .d (.str v2)), (5, .d (.v (.int .i64 (1 : Int)))), (6, .d (.v (.int .u8 ((v1.getD (0 : Int).toNat 0).toNat : Int)))), (46, .d (.v (.bool z2)))] [(3, ((((decide (((v1.getD (0 : Int).toNat 0).toNat : Int) < (33 : Int))) == false) && true) = true → True)), (0, ((((decide (((v1.getD (0 : Int).toNat 0).toNat : Int) < (33 : Int))) == false) && true) = true → True)), (0, (True) ∧ AV.d (.v (.bool (bif (decide (((v1.getD (0 : Int).toNat 0).toNat : Int) < (33 : Int))) then true else (decide (((v1.getD (0 : Int).toNat 0).toNat : Int) > (126 : Int)))))) = .d (.v (.bool z2)))] 0 (by kernel_rfl) (⟨(fun hg => trivial), (fun hg => trivial), ⟨trivial, (by subst hz2; rfl)⟩⟩) ?_
          refine T_cond z2 (by kernel_rfl) (fun hc => ?_) (fun hc => ?_)
          · have h := cond_tt hc h
            refine T_region [] [2, 3] [] [(2, .box [.d (.v (.int .i64 0)), .d (.v (.int .i64 0)), .d (.str []), .d (.v (.int .i64 0)), .d (.v (.int .i64 0))]), (3, .d (.v (.int .i64 (5 : Int))))] [] 3 (by kernel_rfl) (trivial) ?_
            obtain hs := Option.some.inj h; subst hs
            have h := callE_esc hk2
            obtain hs := Option.some.inj h; subst hs
            have h := callE_esc hk1
            obtain hs := Option.some.inj h; subst hs
            refine T_ret fun a w hm => then_ret (inBlock_ret (then_ret (inBlock_ret (then_ret (T_returnC (fr' := [(2, .box [.d (.v (.int .i64 0)), .d (.v (.int .i64 0)), .d (.str []), .d (.v (.int .i64 0)), .d (.v (.int .i64 0))]), (3, .d (.v (.int .i64 (5 : Int))))]) (ts := [65, 3]) (N' := 66) (fr2 := [(65, .agg (cS_Token (S_Token.mk 0 0 [] 0 0)))] ++ [(2, .box [.d (.v (.int .i64 0)), .d (.v (.int .i64 0)), .d (.str []), .d (.v (.int .i64 0)), .d (.v (.int .i64 0))]), (3, .d (.v (.int .i64 (5 : Int))))]) [.keep [2, 3]] (by kernel_rfl) (by kernel_rfl) (by kernel_rfl) (by kernel_rfl) (by show _ = _; kernel_rfl) (by exact trivial) a w hm)))))
          · have h := cond_ff hc h
            obtain hs := Option.some.inj h; subst hs
            refine T_skip fun a w hm => then_norm (⟨_, rfl, hm.co (cs := [.keep [0, 2, 4, 5, 6]]) (by show _ = _; kernel_rfl)⟩)
      · obtain ⟨v3, v4⟩ := s
        try dsimp only at h
        obtain ⟨hp6, h⟩ := chk_ok h
        obtain ⟨hp7, h⟩ := chk_ok h
        refine T_region [(2, { es := some (([(UInt8.ofNat v4.toNat)]).map cU) }), (3, { cs := [.str ([(UInt8.ofNat v4.toNat)])] })] [0, 2, 4, 5] [] [(0, .d (.str v1)), (2, .box [.d (.v (.int .i64 0)), .d (.v (.int .i64 0)), .d (.str []), .d (.v (.int .i64 0)), .d (.v (.int .i64 0))]), (4, .d (.str (v2 ++ ([(UInt8.ofNat v4.toNat)])))), (5, .d (.v (.int .i64 v3)))] [(2, [[Dat.v (.int .u8 v4)]] = (([(UInt8.ofNat v4.toNat)]).map cU)), (0, (([(UInt8.ofNat v4.toNat)]).map cU) = byteCells ([(UInt8.ofNat v4.toNat)])), (0, v2.length + ([(UInt8.ofNat v4.toNat)]).length ≤ 9223372036854775807)] 1 (by kernel_rfl) (⟨(lit_u hp6 (rfl : ([] : List (List Dat)) = ([] : List UInt8).map cU)), rfl, hp7⟩) ?_
        obtain ⟨hp8, h⟩ := chk_ok h
        refine T_region_end [] [0, 2, 4] [] [(0, .d (.str ((v1.drop v3.toNat).take ((v1.length : Int).toNat - v3.toNat)))), (2, .box [.d (.v (.int .i64 0)), .d (.v (.int .i64 0)), .d (.str []), .d (.v (.int .i64 0)), .d (.v (.int .i64 0))]), (4, .d (.str (v2 ++ ([(UInt8.ofNat v4.toNat)]))))] [(2, 0 ≤ v3 ∧ v3 ≤ (v1.length : Int) ∧ (v1.length : Int) ≤ (v1.length : Int))] 1 (by kernel_rfl) (hp8) fun a w hm => inBlock_norm (then_norm (⟨(((v1.drop v3.toNat).take ((v1.length : Int).toNat - v3.toNat)), (v2 ++ ([(UInt8.ofNat v4.toNat)]))), h, hm.co (cs := [.keep [0, 2, 4]]) (by show _ = _; kernel_rfl)⟩))
    · have h := cond_ff hc h
      obtain hs := Option.some.inj h; subst hs
      refine T_exit fun a w hm => then_exit (then_exit (inBlock_exit (then_norm (⟨_, rfl, hm.co (cs := [.keep [2, 4]]) (by show _ = _; kernel_rfl)⟩))))
  · skip
    refine T_seqk ?_
    refine T_region [] [2, 4, 57] [] [(2, .box [.d (.v (.int .i64 0)), .d (.v (.int .i64 0)), .d (.str []), .d (.v (.int .i64 0)), .d (.v (.int .i64 0))]), (4, .d (.str v5)), (57, .d (.v (.bool (v5 == []))))] [] 2 (by kernel_rfl) (trivial) ?_
    refine T_cond (v5 == []) (by kernel_rfl) (fun hc => ?_) (fun hc => ?_)
    · have h := cond_tt hc h
      refine T_region [] [2, 3] [] [(2, .box [.d (.v (.int .i64 0)), .d (.v (.int .i64 0)), .d (.str []), .d (.v (.int .i64 0)), .d (.v (.int .i64 0))]), (3, .d (.v (.int .i64 (5 : Int))))] [] 3 (by kernel_rfl) (trivial) ?_
      obtain hs := Option.some.inj h; subst hs
      refine T_ret fun a w hm => then_ret (T_returnC (fr' := [(2, .box [.d (.v (.int .i64 0)), .d (.v (.int .i64 0)), .d (.str []), .d (.v (.int .i64 0)), .d (.v (.int .i64 0))]), (3, .d (.v (.int .i64 (5 : Int))))]) (ts := [65, 3]) (N' := 66) (fr2 := [(65, .agg (cS_Token (S_Token.mk 0 0 [] 0 0)))] ++ [(2, .box [.d (.v (.int .i64 0)), .d (.v (.int .i64 0)), .d (.str []), .d (.v (.int .i64 0)), .d (.v (.int .i64 0))]), (3, .d (.v (.int .i64 (5 : Int))))]) [.keep [2, 3]] (by kernel_rfl) (by kernel_rfl) (by kernel_rfl) (by kernel_rfl) (by show _ = _; kernel_rfl) (by exact trivial) a w hm)
    · have h := cond_ff hc h
      refine T_skip fun a w hm => then_norm (((?_ : T Tryd.prog e 65 _ _ _) a w hm))
      refine T_seqk ?_
      refine T_region [] [2, 4, 61] [] [(2, .box [.d (.v (.int .i64 0)), .d (.v (.int .i64 0)), .d (.str []), .d (.v (.int .i64 0)), .d (.v (.int .i64 0))]), (4, .d (.str v5)), (61, .d (.v (.bool (decide ((v5.length : Int) > (31 : Int))))))] [] 3 (by kernel_rfl) (trivial) ?_
      refine T_cond (decide ((v5.length : Int) > (31 : Int))) (by kernel_rfl) (fun hc => ?_) (fun hc => ?_)
      · have h := cond_tt hc h
        refine T_region [] [2, 3] [] [(2, .box [.d (.v (.int .i64 0)), .d (.v (.int .i64 0)), .d (.str []), .d (.v (.int .i64 0)), .d (.v (.int .i64 0))]), (3, .d (.v (.int .i64 (2 : Int))))] [] 3 (by kernel_rfl) (trivial) ?_
        obtain hs := Option.some.inj h; subst hs
        refine T_ret fun a w hm => then_ret (T_returnC (fr' := [(2, .box [.d (.v (.int .i64 0)), .d (.v (.int .i64 0)), .d (.str []), .d (.v (.int .i64 0)), .d (.v (.int .i64 0))]), (3, .d (.v (.int .i64 (2 : Int))))]) (ts := [65, 3]) (N' := 66) (fr2 := [(65, .agg (cS_Token (S_Token.mk 0 0 [] 0 0)))] ++ [(2, .box [.d (.v (.int .i64 0)), .d (.v (.int .i64 0)), .d (.str []), .d (.v (.int .i64 0)), .d (.v (.int .i64 0))]), (3, .d (.v (.int .i64 (2 : Int))))]) [.keep [2, 3]] (by kernel_rfl) (by kernel_rfl) (by kernel_rfl) (by kernel_rfl) (by show _ = _; kernel_rfl) (by exact trivial) a w hm)
      · have h := cond_ff hc h
        refine T_skip fun a w hm => then_norm (((?_ : T Tryd.prog e 65 _ _ _) a w hm))
        refine T_region [] [2, 3] [] [(2, .box [.d (.v (.int .i64 (2 : Int))), .d (.v (.int .i64 0)), .d (.str v5), .d (.v (.int .i64 0)), .d (.v (.int .i64 0))]), (3, .d (.v (.int .i64 (0 : Int))))] [] 4 (by kernel_rfl) (trivial) ?_
        obtain hs := Option.some.inj h; subst hs
        refine T_ret fun a w hm => T_returnC (fr' := [(2, .box [.d (.v (.int .i64 (2 : Int))), .d (.v (.int .i64 0)), .d (.str v5), .d (.v (.int .i64 0)), .d (.v (.int .i64 0))]), (3, .d (.v (.int .i64 (0 : Int))))]) (ts := [65, 3]) (N' := 66) (fr2 := [(65, .agg (cS_Token (S_Token.mk (2 : Int) 0 v5 0 0)))] ++ [(2, .box [.d (.v (.int .i64 (2 : Int))), .d (.v (.int .i64 0)), .d (.str v5), .d (.v (.int .i64 0)), .d (.v (.int .i64 0))]), (3, .d (.v (.int .i64 (0 : Int))))]) [.keep [2, 3]] (by kernel_rfl) (by kernel_rfl) (by kernel_rfl) (by kernel_rfl) (by show _ = _; kernel_rfl) (by exact trivial) a w hm

theorem ref3_refToken_ok {F : Nat} {a0 : List UInt8} {r : S_Token × Int} (h : ref3_refToken F a0 = some r) : ACall Tryd.prog 80 [.d (.str a0)] [] (.tup [.agg (cS_Token r.1), .d (.v (.int .i64 r.2))]) [] := by
  rw [ref3_refToken] at h
  refine ACall.intro (N := 34) Tryd.func80 rfl rfl rfl rfl rfl fun e => ?_
  refine T_region [] [0, 2] [] [(0, .d (.str a0)), (2, .box [.d (.v (.int .i64 0)), .d (.v (.int .i64 0)), .d (.str []), .d (.v (.int .i64 0)), .d (.v (.int .i64 0))])] [] 2 (by kernel_rfl) (trivial) ?_
  obtain ⟨y1, hy1, h⟩ := call_ok h
  refine T_region [(1, { res := .d (.v (.int .i64 y1)) })] [0, 2, 4] [] [(0, .d (.str a0)), (2, .box [.d (.v (.int .i64 0)), .d (.v (.int .i64 0)), .d (.str []), .d (.v (.int .i64 0)), .d (.v (.int .i64 0))]), (4, .d (.v (.int .i64 y1)))] [(1, ACall Tryd.prog 71 [.d (.str a0)] [] (.d (.v (.int .i64 y1))) [])] 1 (by kernel_rfl) (ref3_whole_ok hy1) ?_
  refine T_seqk ?_
  obtain ⟨hp1, h⟩ := chk_ok h
  obtain ⟨z1, hz1, h⟩ := lett_ok h
  obtain ⟨z2, hz2, h⟩ := lett_ok h
  refine T_region [(15, { rw := some (.d (.v (.bool z1))) }), (16, { rw := some (.d (.v (.bool z2))) })] [2, 4, 23] [] [(2, .box [.d (.v (.int .i64 0)), .d (.v (.int .i64 0)), .d (.str []), .d (.v (.int .i64 0)), .d (.v (.int .i64 0))]), (4, .d (.v (.int .i64 y1))), (23, .d (.v (.bool z2)))] [(3, ((((decide (y1 < (0 : Int))) == false) && true) = true → True)), (0, ((((decide (y1 < (0 : Int))) == false) && true) = true → True)), (0, ((((decide (y1 < (0 : Int))) == false) && true) = true → True)), (2, ((((bif (decide (y1 < (0 : Int))) then true else (decide ((a0.length : Int) > (3 : Int)))) == false) && true) = true → True)), (0, ((((bif (decide (y1 < (0 : Int))) then true else (decide ((a0.length : Int) > (3 : Int)))) == false) && true) = true → True)), (0, ((((bif (decide (y1 < (0 : Int))) then true else (decide ((a0.length : Int) > (3 : Int)))) == false) && true) = true → True)), (0, ((((bif (decide (y1 < (0 : Int))) then true else (decide ((a0.length : Int) > (3 : Int)))) == false) && true) = true → True)), (0, ((((decide ((a0.length : Int) > (1 : Int))) == true) && (((bif (decide (y1 < (0 : Int))) then true else (decide ((a0.length : Int) > (3 : Int)))) == false) && true)) = true → True)), (0, ((((decide ((a0.length : Int) > (1 : Int))) == true) && (((bif (decide (y1 < (0 : Int))) then true else (decide ((a0.length : Int) > (3 : Int)))) == false) && true)) = true → 0 ≤ (0 : Int) ∧ (0 : Int) < a0.length)), (0, ((((decide ((a0.length : Int) > (1 : Int))) == true) && (((bif (decide (y1 < (0 : Int))) then true else (decide ((a0.length : Int) > (3 : Int)))) == false) && true)) = true → True)), (0, ((((bif (decide (y1 < (0 : Int))) then true else (decide ((a0.length : Int) > (3 : Int)))) == false) && true) = true → (True) ∧ AV.d (.v (.bool (bif (decide ((a0.length : Int) > (1 : Int))) then (((a0.getD (0 : Int).toNat 0).toNat : Int) == (48 : Int)) else false))) = .d (.v (.bool z1)))), (0, (True) ∧ AV.d (.v (.bool (bif (bif (decide (y1 < (0 : Int))) then true else (decide ((a0.length : Int) > (3 : Int)))) then true else z1))) = .d (.v (.bool z2)))] 0 (by kernel_rfl) (⟨(fun hg => trivial), (fun hg => trivial), (fun hg => trivial), (fun hg => trivial), (fun hg => trivial), (fun hg => trivial), (fun hg => trivial), (fun hg => trivial), (fun hg => (hp1 hg)), (fun hg => trivial), (fun hg => ⟨trivial, (by subst hz1; rfl)⟩), ⟨trivial, (by subst hz2; rfl)⟩⟩) ?_
  refine T_cond z2 (by kernel_rfl) (fun hc => ?_) (fun hc => ?_)
  · have h := cond_tt hc h
    refine T_region [] [2, 3] [] [(2, .box [.d (.v (.int .i64 0)), .d (.v (.int .i64 0)), .d (.str []), .d (.v (.int .i64 0)), .d (.v (.int .i64 0))]), (3, .d (.v (.int .i64 (5 : Int))))] [] 3 (by kernel_rfl) (trivial) ?_
    obtain hs := Option.some.inj h; subst hs
    refine T_ret fun a w hm => then_ret (T_returnC (fr' := [(2, .box [.d (.v (.int .i64 0)), .d (.v (.int .i64 0)), .d (.str []), .d (.v (.int .i64 0)), .d (.v (.int .i64 0))]), (3, .d (.v (.int .i64 (5 : Int))))]) (ts := [34, 3]) (N' := 35) (fr2 := [(34, .agg (cS_Token (S_Token.mk 0 0 [] 0 0)))] ++ [(2, .box [.d (.v (.int .i64 0)), .d (.v (.int .i64 0)), .d (.str []), .d (.v (.int .i64 0)), .d (.v (.int .i64 0))]), (3, .d (.v (.int .i64 (5 : Int))))]) [.keep [2, 3]] (by kernel_rfl) (by kernel_rfl) (by kernel_rfl) (by kernel_rfl) (by show _ = _; kernel_rfl) (by exact trivial) a w hm)
  · have h := cond_ff hc h
    refine T_skip fun a w hm => then_norm (((?_ : T Tryd.prog e 34 _ _ _) a w hm))
    refine T_seqk ?_
    refine T_region [] [2, 4, 30] [] [(2, .box [.d (.v (.int .i64 0)), .d (.v (.int .i64 0)), .d (.str []), .d (.v (.int .i64 0)), .d (.v (.int .i64 0))]), (4, .d (.v (.int .i64 y1))), (30, .d (.v (.bool (bif (y1 == (0 : Int)) then true else (decide (y1 > (255 : Int)))))))] [(3, ((((y1 == (0 : Int)) == false) && true) = true → True)), (0, ((((y1 == (0 : Int)) == false) && true) = true → True))] 1 (by kernel_rfl) (⟨(fun hg => trivial), (fun hg => trivial)⟩) ?_
    refine T_cond (bif (y1 == (0 : Int)) then true else (decide (y1 > (255 : Int)))) (by kernel_rfl) (fun hc => ?_) (fun hc => ?_)
    · have h := cond_tt hc h
      refine T_region [] [2, 3] [] [(2, .box [.d (.v (.int .i64 0)), .d (.v (.int .i64 0)), .d (.str []), .d (.v (.int .i64 0)), .d (.v (.int .i64 0))]), (3, .d (.v (.int .i64 (3 : Int))))] [] 3 (by kernel_rfl) (trivial) ?_
      obtain hs := Option.some.inj h; subst hs
      refine T_ret fun a w hm => then_ret (T_returnC (fr' := [(2, .box [.d (.v (.int .i64 0)), .d (.v (.int .i64 0)), .d (.str []), .d (.v (.int .i64 0)), .d (.v (.int .i64 0))]), (3, .d (.v (.int .i64 (3 : Int))))]) (ts := [34, 3]) (N' := 35) (fr2 := [(34, .agg (cS_Token (S_Token.mk 0 0 [] 0 0)))] ++ [(2, .box [.d (.v (.int .i64 0)), .d (.v (.int .i64 0)), .d (.str []), .d (.v (.int .i64 0)), .d (.v (.int .i64 0))]), (3, .d (.v (.int .i64 (3 : Int))))]) [.keep [2, 3]] (by kernel_rfl) (by kernel_rfl) (by kernel_rfl) (by kernel_rfl) (by show _ = _; kernel_rfl) (by exact trivial) a w hm)
    · have h := cond_ff hc h
      refine T_skip fun a w hm => then_norm (((?_ : T Tryd.prog e 34 _ _ _) a w hm))
      refine T_region [] [2, 3] [] [(2, .box [.d (.v (.int .i64 (4 : Int))), .d (.v (.int .i64 y1)), .d (.str []), .d (.v (.int .i64 0)), .d (.v (.int .i64 0))]), (3, .d (.v (.int .i64 (0 : Int))))] [] 4 (by kernel_rfl) (trivial) ?_
      obtain hs := Option.some.inj h; subst hs
      refine T_ret fun a w hm => T_returnC (fr' := [(2, .box [.d (.v (.int .i64 (4 : Int))), .d (.v (.int .i64 y1)), .d (.str []), .d (.v (.int .i64 0)), .d (.v (.int .i64 0))]), (3, .d (.v (.int .i64 (0 : Int))))]) (ts := [34, 3]) (N' := 35) (fr2 := [(34, .agg (cS_Token (S_Token.mk (4 : Int) y1 [] 0 0)))] ++ [(2, .box [.d (.v (.int .i64 (4 : Int))), .d (.v (.int .i64 y1)), .d (.str []), .d (.v (.int .i64 0)), .d (.v (.int .i64 0))]), (3, .d (.v (.int .i64 (0 : Int))))]) [.keep [2, 3]] (by kernel_rfl) (by kernel_rfl) (by kernel_rfl) (by kernel_rfl) (by show _ = _; kernel_rfl) (by exact trivial) a w hm

theorem ref3_map1_ok {F : Nat} {a0 : Int} {r : Int} (h : ref3_map1 F a0 = some r) : ACall Tryd.prog 108 [.d (.v (.int .u8 a0))] [] (.d (.v (.int .i64 r))) [] := by
  rw [ref3_map1] at h
  refine ACall.intro (N := 16) Tryd.func108 rfl rfl rfl rfl rfl fun e => ?_
  refine T_region [] [0] [] [(0, .d (.v (.int .u8 a0)))] [] 1 (by kernel_rfl) (trivial) ?_
  refine T_seqk ?_
  refine T_region [] [0, 3] [] [(0, .d (.v (.int .u8 a0))), (3, .d (.v (.int .u8 a0)))] [] 1 (by kernel_rfl) (trivial) ?_
  refine T_block ?_
  refine T_region [] [0, 3, 4] [] [(0, .d (.v (.int .u8 a0))), (3, .d (.v (.int .u8 a0))), (4, .d (.v (.bool (a0 == (110 : Int)))))] [] 2 (by kernel_rfl) (trivial) ?_
  refine T_cond (a0 == (110 : Int)) (by kernel_rfl) (fun hc => ?_) (fun hc => ?_)
  · have h := cond_tt hc h
    refine T_region [] [2] [] [(2, .d (.v (.int .i64 (10 : Int))))] [] 1 (by kernel_rfl) (trivial) ?_
    obtain hs := Option.some.inj h; subst hs
    refine T_ret fun a w hm => inBlock_ret (then_ret (T_return (fr' := [(2, .d (.v (.int .i64 (10 : Int))))]) [2] (by kernel_rfl) [.keep [2]] (by kernel_rfl) (by kernel_rfl) (by kernel_rfl) (by show _ = _; kernel_rfl) (by exact trivial) a w hm))
  · have h := cond_ff hc h
    refine T_region [] [0, 3, 6] [] [(0, .d (.v (.int .u8 a0))), (3, .d (.v (.int .u8 a0))), (6, .d (.v (.bool (a0 == (116 : Int)))))] [] 2 (by kernel_rfl) (trivial) ?_
    refine T_cond (a0 == (116 : Int)) (by kernel_rfl) (fun hc => ?_) (fun hc => ?_)
    · have h := cond_tt hc h
      refine T_region [] [2] [] [(2, .d (.v (.int .i64 (9 : Int))))] [] 1 (by kernel_rfl) (trivial) ?_
      obtain hs := Option.some.inj h; subst hs
      refine T_ret fun a w hm => inBlock_ret (then_ret (T_return (fr' := [(2, .d (.v (.int .i64 (9 : Int))))]) [2] (by kernel_rfl) [.keep [2]] (by kernel_rfl) (by kernel_rfl) (by kernel_rfl) (by show _ = _; kernel_rfl) (by exact trivial) a w hm))
    · have h := cond_ff hc h
      refine T_joinc h (fun (p : Bool) => [(0, .d (.v (.int .u8 a0))), (3, .d (.v (.int .u8 a0))), (8, .d (.v (.bool p)))]) (fun s h => ?_) (fun v1 h => ?_)
      · refine T_region [] [0, 3, 8] [] [(0, .d (.v (.int .u8 a0))), (3, .d (.v (.int .u8 a0))), (8, .d (.v (.bool (a0 == (92 : Int)))))] [] 2 (by kernel_rfl) (trivial) ?_
        refine T_cond (a0 == (92 : Int)) (by kernel_rfl) (fun hc => ?_) (fun hc => ?_)
        · have h := cond_tt hc h
          obtain hs := Option.some.inj h; subst hs
          refine T_skip fun a w hm => then_norm (hm.co (cs := [.keep [0, 3, 8]]) (by show _ = _; kernel_rfl))
        · have h := cond_ff hc h
          refine T_region [] [0, 3, 8] [] [(0, .d (.v (.int .u8 a0))), (3, .d (.v (.int .u8 a0))), (8, .d (.v (.bool (a0 == (40 : Int)))))] [] 2 (by kernel_rfl) (trivial) ?_
          refine T_cond (a0 == (40 : Int)) (by kernel_rfl) (fun hc => ?_) (fun hc => ?_)
          · have h := cond_tt hc h
            obtain hs := Option.some.inj h; subst hs
            refine T_skip fun a w hm => then_norm (hm.co (cs := [.keep [0, 3, 8]]) (by show _ = _; kernel_rfl))
          · have h := cond_ff hc h
            obtain hs := Option.some.inj h; subst hs
            refine T_region_end [] [0, 3, 8] [] [(0, .d (.v (.int .u8 a0))), (3, .d (.v (.int .u8 a0))), (8, .d (.v (.bool (a0 == (41 : Int)))))] [] 2 (by kernel_rfl) (trivial) fun a w hm => then_norm (hm.co (cs := [.keep [0, 3, 8]]) (by show _ = _; kernel_rfl))
      · skip
        refine T_cond v1 (by kernel_rfl) (fun hc => ?_) (fun hc => ?_)
        · have h := cond_tt hc h
          refine T_region [] [2] [] [(2, .d (.v (.int .i64 (IntKind.i64.wrap a0))))] [] 3 (by kernel_rfl) (trivial) ?_
          obtain hs := Option.some.inj h; subst hs
          refine T_ret fun a w hm => inBlock_ret (then_ret (T_return (fr' := [(2, .d (.v (.int .i64 (IntKind.i64.wrap a0))))]) [2] (by kernel_rfl) [.keep [2]] (by kernel_rfl) (by kernel_rfl) (by kernel_rfl) (by show _ = _; kernel_rfl) (by exact trivial) a w hm))
        · have h := cond_ff hc h
          refine T_region [] [14] [] [(14, .d (.v (.bool (a0 == (10 : Int)))))] [] 2 (by kernel_rfl) (trivial) ?_
          refine T_cond (a0 == (10 : Int)) (by kernel_rfl) (fun hc => ?_) (fun hc => ?_)
          · have h := cond_tt hc h
            refine T_region [] [2] [] [(2, .d (.v (.int .i64 (-1 : Int))))] [] 1 (by kernel_rfl) (trivial) ?_
            obtain hs := Option.some.inj h; subst hs
            refine T_ret fun a w hm => inBlock_ret (then_ret (T_return (fr' := [(2, .d (.v (.int .i64 (-1 : Int))))]) [2] (by kernel_rfl) [.keep [2]] (by kernel_rfl) (by kernel_rfl) (by kernel_rfl) (by show _ = _; kernel_rfl) (by exact trivial) a w hm))
          · have h := cond_ff hc h
            refine T_skip fun a w hm => inBlock_norm (then_norm (((?_ : T Tryd.prog e 16 _ _ _) a w hm)))
            refine T_region [] [2] [] [(2, .d (.v (.int .i64 (-2 : Int))))] [] 1 (by kernel_rfl) (trivial) ?_
            obtain hs := Option.some.inj h; subst hs
            refine T_ret fun a w hm => T_return (fr' := [(2, .d (.v (.int .i64 (-2 : Int))))]) [2] (by kernel_rfl) [.keep [2]] (by kernel_rfl) (by kernel_rfl) (by kernel_rfl) (by show _ = _; kernel_rfl) (by exact trivial) a w hm

theorem ref3_textToken_ok {F : Nat} {a0 : List UInt8} {r : S_Token × Int × Int} (h : ref3_textToken F a0 = some r) : ACall Tryd.prog 81 [.d (.str a0)] [] (.tup [.agg (cS_Token r.1), .d (.v (.int .i64 r.2.1)), .d (.v (.int .i64 r.2.2))]) [] := by
  rw [ref3_textToken] at h
  refine ACall.intro (N := 104) Tryd.func81 rfl rfl rfl rfl rfl fun e => ?_
  refine T_region [] [0, 2] [] [(0, .d (.str a0)), (2, .box [.d (.v (.int .i64 0)), .d (.v (.int .i64 0)), .d (.str []), .d (.v (.int .i64 0)), .d (.v (.int .i64 0))])] [] 3 (by kernel_rfl) (trivial) ?_
  refine T_region [] [0, 2, 5] [] [(0, .d (.str a0)), (2, .box [.d (.v (.int .i64 0)), .d (.v (.int .i64 0)), .d (.str []), .d (.v (.int .i64 0)), .d (.v (.int .i64 0))]), (5, .own 5 1 ([].map cU))] [] 1 (by kernel_rfl) (trivial) ?_
  refine T_region [] [0, 2, 5, 6, 7, 8] [] [(0, .d (.str a0)), (2, .box [.d (.v (.int .i64 0)), .d (.v (.int .i64 0)), .d (.str []), .d (.v (.int .i64 0)), .d (.v (.int .i64 0))]), (5, .own 5 1 ([].map cU)), (6, .d (.v (.int .i64 (1 : Int)))), (7, .d (.v (.int .i64 (0 : Int)))), (8, .d (.v (.int .i64 (0 : Int))))] [] 3 (by kernel_rfl) (trivial) ?_
  refine T_seqk ?_
  refine T_region [] [0, 2, 5, 6, 7, 8, 14, 15] [] [(0, .d (.str a0)), (2, .box [.d (.v (.int .i64 0)), .d (.v (.int .i64 0)), .d (.str []), .d (.v (.int .i64 0)), .d (.v (.int .i64 0))]), (5, .own 5 1 ([].map cU)), (6, .d (.v (.int .i64 (1 : Int)))), (7, .d (.v (.int .i64 (0 : Int)))), (8, .d (.v (.int .i64 (0 : Int)))), (14, .d (.v (.int .i64 (a0.length : Int)))), (15, .d (.v (.int .i64 (0 : Int))))] [] 3 (by kernel_rfl) (trivial) ?_
  refine T_joinEt h (fun (p : Int) => [(2, .box [.d (.v (.int .i64 0)), .d (.v (.int .i64 0)), .d (.str []), .d (.v (.int .i64 0)), .d (.v (.int .i64 0))]), (7, .d (.v (.int .i64 p)))]) (fun s h hk1 => ?_) (fun v13 h => ?_)
  · refine T_co [.keep [0, 2, 5, 6, 7, 8, 14, 15]] ((fun (p : (List UInt8) × Int × Int × Int × Int) => [(0, .d (.str a0)), (2, .box [.d (.v (.int .i64 0)), .d (.v (.int .i64 0)), .d (.str []), .d (.v (.int .i64 0)), .d (.v (.int .i64 0))]), (5, .own 5 1 (p.1.map cU)), (6, .d (.v (.int .i64 p.2.1))), (7, .d (.v (.int .i64 p.2.2.1))), (8, .d (.v (.int .i64 p.2.2.2.1))), (14, .d (.v (.int .i64 (a0.length : Int)))), (15, .d (.v (.int .i64 p.2.2.2.2)))]) ([], (1 : Int), (0 : Int), (0 : Int), (0 : Int))) (by show _ = _; kernel_rfl) ?_
    refine T_block ?_
    refine T_loopF (ι := (List UInt8) × Int × Int × Int × Int) (fun (p : (List UInt8) × Int × Int × Int × Int) => [(0, .d (.str a0)), (2, .box [.d (.v (.int .i64 0)), .d (.v (.int .i64 0)), .d (.str []), .d (.v (.int .i64 0)), .d (.v (.int .i64 0))]), (5, .own 5 1 (p.1.map cU)), (6, .d (.v (.int .i64 p.2.1))), (7, .d (.v (.int .i64 p.2.2.1))), (8, .d (.v (.int .i64 p.2.2.2.1))), (14, .d (.v (.int .i64 (a0.length : Int)))), (15, .d (.v (.int .i64 p.2.2.2.2)))]) (fun n p => ref3_textToken_L0 F a0 n p.1 p.2.1 p.2.2.1 p.2.2.2.1 p.2.2.2.2 = some s) (fun i hh => by simp [ref3_textToken_L0] at hh) (fun n p h => ?_) F ([], (1 : Int), (0 : Int), (0 : Int), (0 : Int)) h
    obtain ⟨v1, v2, v3, v4, v5⟩ := p
    have h : ref3_textToken_L0 F a0 (n + 1) v1 v2 v3 v4 v5 = some s := h
    rw [ref3_textToken_L0] at h
    refine T_region [] [0, 2, 5, 6, 7, 8, 14, 15, 16] [] [(0, .d (.str a0)), (2, .box [.d (.v (.int .i64 0)), .d (.v (.int .i64 0)), .d (.str []), .d (.v (.int .i64 0)), .d (.v (.int .i64 0))]), (5, .own 5 1 (v1.map cU)), (6, .d (.v (.int .i64 v2))), (7, .d (.v (.int .i64 v3))), (8, .d (.v (.int .i64 v4))), (14, .d (.v (.int .i64 (a0.length : Int)))), (15, .d (.v (.int .i64 v5))), (16, .d (.v (.bool (decide (v5 < (a0.length : Int))))))] [] 1 (by kernel_rfl) (trivial) ?_
    refine T_seqk ?_
    refine T_cond (decide (v5 < (a0.length : Int))) (by kernel_rfl) (fun hc => ?_) (fun hc => ?_)
    · have h := cond_tt hc h
      refine T_skip fun a w hm => then_norm (((?_ : T Tryd.prog e 104 _ _ _) a w hm))
      refine T_joinE h (fun (p : (List UInt8) × Int × Int × Int) => [(0, .d (.str a0)), (2, .box [.d (.v (.int .i64 0)), .d (.v (.int .i64 0)), .d (.str []), .d (.v (.int .i64 0)), .d (.v (.int .i64 0))]), (5, .own 5 1 (p.1.map cU)), (6, .d (.v (.int .i64 p.2.2.2))), (7, .d (.v (.int .i64 p.2.1))), (8, .d (.v (.int .i64 p.2.2.1))), (14, .d (.v (.int .i64 (a0.length : Int)))), (15, .d (.v (.int .i64 v5)))]) (fun s h hk2 => ?_) (fun s h => ?_)
      · refine T_block ?_
        refine T_region [] [0, 2, 5, 6, 7, 8, 9, 14, 15] [] [(0, .d (.str a0)), (2, .box [.d (.v (.int .i64 0)), .d (.v (.int .i64 0)), .d (.str []), .d (.v (.int .i64 0)), .d (.v (.int .i64 0))]), (5, .own 5 1 (v1.map cU)), (6, .d (.v (.int .i64 v2))), (7, .d (.v (.int .i64 v3))), (8, .d (.v (.int .i64 v4))), (9, .d (.v (.int .i64 v5))), (14, .d (.v (.int .i64 (a0.length : Int)))), (15, .d (.v (.int .i64 v5)))] [] 2 (by kernel_rfl) (trivial) ?_
        obtain ⟨hp1, h⟩ := chk_ok h
        refine T_region [] [0, 2, 5, 6, 7, 8, 9, 10, 14, 15] [] [(0, .d (.str a0)), (2, .box [.d (.v (.int .i64 0)), .d (.v (.int .i64 0)), .d (.str []), .d (.v (.int .i64 0)), .d (.v (.int .i64 0))]), (5, .own 5 1 (v1.map cU)), (6, .d (.v (.int .i64 v2))), (7, .d (.v (.int .i64 v3))), (8, .d (.v (.int .i64 v4))), (9, .d (.v (.int .i64 v5))), (10, .d (.v (.int .u8 ((a0.getD v5.toNat 0).toNat : Int)))), (14, .d (.v (.int .i64 (a0.length : Int)))), (15, .d (.v (.int .i64 v5)))] [(2, 0 ≤ v5 ∧ v5 < a0.length)] 1 (by kernel_rfl) (hp1) ?_
        refine T_block ?_
        refine T_region [] [0, 2, 5, 6, 7, 8, 9, 10, 14, 15, 36] [] [(0, .d (.str a0)), (2, .box [.d (.v (.int .i64 0)), .d (.v (.int .i64 0)), .d (.str []), .d (.v (.int .i64 0)), .d (.v (.int .i64 0))]), (5, .own 5 1 (v1.map cU)), (6, .d (.v (.int .i64 v2))), (7, .d (.v (.int .i64 v3))), (8, .d (.v (.int .i64 v4))), (9, .d (.v (.int .i64 v5))), (10, .d (.v (.int .u8 ((a0.getD v5.toNat 0).toNat : Int)))), (14, .d (.v (.int .i64 (a0.length : Int)))), (15, .d (.v (.int .i64 v5))), (36, .d (.v (.bool (bif (v3 == (1 : Int)) then (((a0.getD v5.toNat 0).toNat : Int) == (120 : Int)) else false))))] [(3, ((((v3 == (1 : Int)) == true) && true) = true → True)), (0, ((((v3 == (1 : Int)) == true) && true) = true → True))] 2 (by kernel_rfl) (⟨(fun hg => trivial), (fun hg => trivial)⟩) ?_
        refine T_cond (bif (v3 == (1 : Int)) then (((a0.getD v5.toNat 0).toNat : Int) == (120 : Int)) else false) (by kernel_rfl) (fun hc => ?_) (fun hc => ?_)
        · have h := cond_tt hc h
          obtain hs := Option.some.inj h; subst hs
          refine T_region_end [] [0, 2, 5, 6, 7, 8, 14, 15] [] [(0, .d (.str a0)), (2, .box [.d (.v (.int .i64 0)), .d (.v (.int .i64 0)), .d (.str []), .d (.v (.int .i64 0)), .d (.v (.int .i64 0))]), (5, .own 5 1 (v1.map cU)), (6, .d (.v (.int .i64 v2))), (7, .d (.v (.int .i64 (2 : Int)))), (8, .d (.v (.int .i64 v4))), (14, .d (.v (.int .i64 (a0.length : Int)))), (15, .d (.v (.int .i64 v5)))] [] 1 (by kernel_rfl) (trivial) fun a w hm => inBlock_norm (inBlock_norm (then_norm (⟨_, rfl, hm.co (cs := [.keep [0, 2, 5, 6, 7, 8, 14, 15]]) (by show _ = _; kernel_rfl)⟩)))
        · have h := cond_ff hc h
          refine T_region [] [0, 2, 5, 6, 7, 8, 9, 10, 14, 15, 43] [] [(0, .d (.str a0)), (2, .box [.d (.v (.int .i64 0)), .d (.v (.int .i64 0)), .d (.str []), .d (.v (.int .i64 0)), .d (.v (.int .i64 0))]), (5, .own 5 1 (v1.map cU)), (6, .d (.v (.int .i64 v2))), (7, .d (.v (.int .i64 v3))), (8, .d (.v (.int .i64 v4))), (9, .d (.v (.int .i64 v5))), (10, .d (.v (.int .u8 ((a0.getD v5.toNat 0).toNat : Int)))), (14, .d (.v (.int .i64 (a0.length : Int)))), (15, .d (.v (.int .i64 v5))), (43, .d (.v (.bool (v3 == (1 : Int)))))] [] 3 (by kernel_rfl) (trivial) ?_
          refine T_cond (v3 == (1 : Int)) (by kernel_rfl) (fun hc => ?_) (fun hc => ?_)
          · have h := cond_tt hc h
            refine T_region [] [0, 2, 5, 6, 7, 8, 10, 14, 15] [] [(0, .d (.str a0)), (2, .box [.d (.v (.int .i64 0)), .d (.v (.int .i64 0)), .d (.str []), .d (.v (.int .i64 0)), .d (.v (.int .i64 0))]), (5, .own 5 1 (v1.map cU)), (6, .d (.v (.int .i64 v2))), (7, .d (.v (.int .i64 (0 : Int)))), (8, .d (.v (.int .i64 v4))), (10, .d (.v (.int .u8 ((a0.getD v5.toNat 0).toNat : Int)))), (14, .d (.v (.int .i64 (a0.length : Int)))), (15, .d (.v (.int .i64 v5)))] [] 1 (by kernel_rfl) (trivial) ?_
            obtain ⟨y1, hy1, h⟩ := call_ok h
            refine T_region [(1, { res := .d (.v (.int .i64 y1)) })] [0, 2, 5, 6, 7, 8, 11, 14, 15] [] [(0, .d (.str a0)), (2, .box [.d (.v (.int .i64 0)), .d (.v (.int .i64 0)), .d (.str []), .d (.v (.int .i64 0)), .d (.v (.int .i64 0))]), (5, .own 5 1 (v1.map cU)), (6, .d (.v (.int .i64 v2))), (7, .d (.v (.int .i64 (0 : Int)))), (8, .d (.v (.int .i64 v4))), (11, .d (.v (.int .i64 y1))), (14, .d (.v (.int .i64 (a0.length : Int)))), (15, .d (.v (.int .i64 v5)))] [(1, ACall Tryd.prog 108 [.d (.v (.int .u8 ((a0.getD v5.toNat 0).toNat : Int)))] [] (.d (.v (.int .i64 y1))) [])] 1 (by kernel_rfl) (ref3_map1_ok hy1) ?_
            refine T_seqk ?_
            refine T_region [] [0, 2, 5, 6, 7, 8, 11, 14, 15, 49] [] [(0, .d (.str a0)), (2, .box [.d (.v (.int .i64 0)), .d (.v (.int .i64 0)), .d (.str []), .d (.v (.int .i64 0)), .d (.v (.int .i64 0))]), (5, .own 5 1 (v1.map cU)), (6, .d (.v (.int .i64 v2))), (7, .d (.v (.int .i64 (0 : Int)))), (8, .d (.v (.int .i64 v4))), (11, .d (.v (.int .i64 y1))), (14, .d (.v (.int .i64 (a0.length : Int)))), (15, .d (.v (.int .i64 v5))), (49, .d (.v (.bool (y1 == (-2 : Int)))))] [] 2 (by kernel_rfl) (trivial) ?_
            refine T_cond (y1 == (-2 : Int)) (by kernel_rfl) (fun hc => ?_) (fun hc => ?_)
            · have h := cond_tt hc h
              refine T_region [] [2, 3, 4] [] [(2, .box [.d (.v (.int .i64 0)), .d (.v (.int .i64 0)), .d (.str []), .d (.v (.int .i64 0)), .d (.v (.int .i64 0))]), (3, .d (.v (.int .i64 (0 : Int)))), (4, .d (.v (.int .i64 (5 : Int))))] [] 4 (by kernel_rfl) (trivial) ?_
              obtain hs := Option.some.inj h; subst hs
              have h := callE_esc hk2
              obtain hs := Option.some.inj h; subst hs
              have h := callE_esc hk1
              obtain hs := Option.some.inj h; subst hs
              refine T_ret fun a w hm => then_ret (inBlock_ret (inBlock_ret (then_ret (then_ret (inBlock_ret (then_ret (then_ret (T_returnC (fr' := [(2, .box [.d (.v (.int .i64 0)), .d (.v (.int .i64 0)), .d (.str []), .d (.v (.int .i64 0)), .d (.v (.int .i64 0))]), (3, .d (.v (.int .i64 (0 : Int)))), (4, .d (.v (.int .i64 (5 : Int))))]) (ts := [104, 3, 4]) (N' := 105) (fr2 := [(104, .agg (cS_Token (S_Token.mk 0 0 [] 0 0)))] ++ [(2, .box [.d (.v (.int .i64 0)), .d (.v (.int .i64 0)), .d (.str []), .d (.v (.int .i64 0)), .d (.v (.int .i64 0))]), (3, .d (.v (.int .i64 (0 : Int)))), (4, .d (.v (.int .i64 (5 : Int))))]) [.keep [2, 3, 4]] (by kernel_rfl) (by kernel_rfl) (by kernel_rfl) (by kernel_rfl) (by show _ = _; kernel_rfl) (by exact trivial) a w hm))))))))
            · have h := cond_ff hc h
              refine T_skip fun a w hm => then_norm (((?_ : T Tryd.prog e 104 _ _ _) a w hm))
              refine T_region [] [0, 2, 5, 6, 7, 8, 11, 14, 15, 52] [] [(0, .d (.str a0)), (2, .box [.d (.v (.int .i64 0)), .d (.v (.int .i64 0)), .d (.str []), .d (.v (.int .i64 0)), .d (.v (.int .i64 0))]), (5, .own 5 1 (v1.map cU)), (6, .d (.v (.int .i64 v2))), (7, .d (.v (.int .i64 (0 : Int)))), (8, .d (.v (.int .i64 v4))), (11, .d (.v (.int .i64 y1))), (14, .d (.v (.int .i64 (a0.length : Int)))), (15, .d (.v (.int .i64 v5))), (52, .d (.v (.bool (decide (y1 ≥ (0 : Int))))))] [] 2 (by kernel_rfl) (trivial) ?_
              refine T_cond (decide (y1 ≥ (0 : Int))) (by kernel_rfl) (fun hc => ?_) (fun hc => ?_)
              · have h := cond_tt hc h
                obtain ⟨hp2, h⟩ := chk_ok h
                obtain ⟨hp3, h⟩ := chk_ok h
                obtain hs := Option.some.inj h; subst hs
                refine T_region_end [(3, { es := some (([(UInt8.ofNat (IntKind.u8.wrap y1).toNat)]).map cU) }), (4, { es := some ((v1 ++ ([(UInt8.ofNat (IntKind.u8.wrap y1).toNat)])).map cU) })] [0, 2, 5, 6, 7, 8, 14, 15] [] [(0, .d (.str a0)), (2, .box [.d (.v (.int .i64 0)), .d (.v (.int .i64 0)), .d (.str []), .d (.v (.int .i64 0)), .d (.v (.int .i64 0))]), (5, .own 5 1 ((v1 ++ ([(UInt8.ofNat (IntKind.u8.wrap y1).toNat)])).map cU)), (6, .d (.v (.int .i64 v2))), (7, .d (.v (.int .i64 (0 : Int)))), (8, .d (.v (.int .i64 v4))), (14, .d (.v (.int .i64 (a0.length : Int)))), (15, .d (.v (.int .i64 v5)))] [(3, [[Dat.v (.int .u8 (IntKind.u8.wrap y1))]] = (([(UInt8.ofNat (IntKind.u8.wrap y1).toNat)]).map cU)), (0, (v1.map cU).length + (([(UInt8.ofNat (IntKind.u8.wrap y1).toNat)]).map cU).length ≤ 4294967296 ∧ (v1.map cU) ++ (([(UInt8.ofNat (IntKind.u8.wrap y1).toNat)]).map cU) = ((v1 ++ ([(UInt8.ofNat (IntKind.u8.wrap y1).toNat)])).map cU))] 1 (by kernel_rfl) (⟨(lit_u hp2 (rfl : ([] : List (List Dat)) = ([] : List UInt8).map cU)), app_ok cU hp3⟩) fun a w hm => inBlock_norm (inBlock_norm (then_norm (⟨_, rfl, hm.co (cs := [.keep [0, 2, 5, 6, 7, 8, 14, 15]]) (by show _ = _; kernel_rfl)⟩)))
              · have h := cond_ff hc h
                obtain hs := Option.some.inj h; subst hs
                refine T_skip fun a w hm => inBlock_norm (inBlock_norm (then_norm (⟨_, rfl, hm.co (cs := [.keep [0, 2, 5, 6, 7, 8, 14, 15]]) (by show _ = _; kernel_rfl)⟩)))
          · have h := cond_ff hc h
            refine T_region [] [0, 2, 5, 6, 7, 8, 9, 10, 14, 15, 58] [] [(0, .d (.str a0)), (2, .box [.d (.v (.int .i64 0)), .d (.v (.int .i64 0)), .d (.str []), .d (.v (.int .i64 0)), .d (.v (.int .i64 0))]), (5, .own 5 1 (v1.map cU)), (6, .d (.v (.int .i64 v2))), (7, .d (.v (.int .i64 v3))), (8, .d (.v (.int .i64 v4))), (9, .d (.v (.int .i64 v5))), (10, .d (.v (.int .u8 ((a0.getD v5.toNat 0).toNat : Int)))), (14, .d (.v (.int .i64 (a0.length : Int)))), (15, .d (.v (.int .i64 v5))), (58, .d (.v (.bool (decide (v3 > (1 : Int))))))] [] 3 (by kernel_rfl) (trivial) ?_
            refine T_cond (decide (v3 > (1 : Int))) (by kernel_rfl) (fun hc => ?_) (fun hc => ?_)
            · have h := cond_tt hc h
              obtain ⟨y2, hy2, h⟩ := call_ok h
              refine T_region [(1, { res := .d (.v (.int .i64 y2)) })] [0, 2, 5, 6, 7, 8, 12, 14, 15] [] [(0, .d (.str a0)), (2, .box [.d (.v (.int .i64 0)), .d (.v (.int .i64 0)), .d (.str []), .d (.v (.int .i64 0)), .d (.v (.int .i64 0))]), (5, .own 5 1 (v1.map cU)), (6, .d (.v (.int .i64 v2))), (7, .d (.v (.int .i64 v3))), (8, .d (.v (.int .i64 v4))), (12, .d (.v (.int .i64 y2))), (14, .d (.v (.int .i64 (a0.length : Int)))), (15, .d (.v (.int .i64 v5)))] [(1, ACall Tryd.prog 107 [.d (.v (.int .u8 ((a0.getD v5.toNat 0).toNat : Int)))] [] (.d (.v (.int .i64 y2))) [])] 1 (by kernel_rfl) (ref3_hex_ok hy2) ?_
              refine T_seqk ?_
              refine T_region [] [0, 2, 5, 6, 7, 8, 12, 14, 15, 64] [] [(0, .d (.str a0)), (2, .box [.d (.v (.int .i64 0)), .d (.v (.int .i64 0)), .d (.str []), .d (.v (.int .i64 0)), .d (.v (.int .i64 0))]), (5, .own 5 1 (v1.map cU)), (6, .d (.v (.int .i64 v2))), (7, .d (.v (.int .i64 v3))), (8, .d (.v (.int .i64 v4))), (12, .d (.v (.int .i64 y2))), (14, .d (.v (.int .i64 (a0.length : Int)))), (15, .d (.v (.int .i64 v5))), (64, .d (.v (.bool (decide (y2 < (0 : Int))))))] [] 2 (by kernel_rfl) (trivial) ?_
              refine T_cond (decide (y2 < (0 : Int))) (by kernel_rfl) (fun hc => ?_) (fun hc => ?_)
              · have h := cond_tt hc h
                refine T_region [] [2, 3, 4] [] [(2, .box [.d (.v (.int .i64 0)), .d (.v (.int .i64 0)), .d (.str []), .d (.v (.int .i64 0)), .d (.v (.int .i64 0))]), (3, .d (.v (.int .i64 (0 : Int)))), (4, .d (.v (.int .i64 (5 : Int))))] [] 4 (by kernel_rfl) (trivial) ?_
                obtain hs := Option.some.inj h; subst hs
                have h := callE_esc hk2
                obtain hs := Option.some.inj h; subst hs
                have h := callE_esc hk1
                obtain hs := Option.some.inj h; subst hs
                refine T_ret fun a w hm => then_ret (inBlock_ret (inBlock_ret (then_ret (then_ret (inBlock_ret (then_ret (then_ret (T_returnC (fr' := [(2, .box [.d (.v (.int .i64 0)), .d (.v (.int .i64 0)), .d (.str []), .d (.v (.int .i64 0)), .d (.v (.int .i64 0))]), (3, .d (.v (.int .i64 (0 : Int)))), (4, .d (.v (.int .i64 (5 : Int))))]) (ts := [104, 3, 4]) (N' := 105) (fr2 := [(104, .agg (cS_Token (S_Token.mk 0 0 [] 0 0)))] ++ [(2, .box [.d (.v (.int .i64 0)), .d (.v (.int .i64 0)), .d (.str []), .d (.v (.int .i64 0)), .d (.v (.int .i64 0))]), (3, .d (.v (.int .i64 (0 : Int)))), (4, .d (.v (.int .i64 (5 : Int))))]) [.keep [2, 3, 4]] (by kernel_rfl) (by kernel_rfl) (by kernel_rfl) (by kernel_rfl) (by show _ = _; kernel_rfl) (by exact trivial) a w hm))))))))
              · have h := cond_ff hc h
                refine T_skip fun a w hm => then_norm (((?_ : T Tryd.prog e 104 _ _ _) a w hm))
                refine T_joinc h (fun (p : (List UInt8)) => [(0, .d (.str a0)), (2, .box [.d (.v (.int .i64 0)), .d (.v (.int .i64 0)), .d (.str []), .d (.v (.int .i64 0)), .d (.v (.int .i64 0))]), (5, .own 5 1 (p.map cU)), (6, .d (.v (.int .i64 v2))), (7, .d (.v (.int .i64 v3))), (12, .d (.v (.int .i64 y2))), (14, .d (.v (.int .i64 (a0.length : Int)))), (15, .d (.v (.int .i64 v5)))]) (fun s h => ?_) (fun v6 h => ?_)
                · refine T_region [] [0, 2, 5, 6, 7, 8, 12, 14, 15, 67] [] [(0, .d (.str a0)), (2, .box [.d (.v (.int .i64 0)), .d (.v (.int .i64 0)), .d (.str []), .d (.v (.int .i64 0)), .d (.v (.int .i64 0))]), (5, .own 5 1 (v1.map cU)), (6, .d (.v (.int .i64 v2))), (7, .d (.v (.int .i64 v3))), (8, .d (.v (.int .i64 v4))), (12, .d (.v (.int .i64 y2))), (14, .d (.v (.int .i64 (a0.length : Int)))), (15, .d (.v (.int .i64 v5))), (67, .d (.v (.bool (v3 == (3 : Int)))))] [] 2 (by kernel_rfl) (trivial) ?_
                  refine T_cond (v3 == (3 : Int)) (by kernel_rfl) (fun hc => ?_) (fun hc => ?_)
                  · have h := cond_tt hc h
                    obtain ⟨hp4, h⟩ := chk_ok h
                    obtain ⟨hp5, h⟩ := chk_ok h
                    obtain ⟨l1, hl1, h⟩ := lett_ok h
                    obtain hs := Option.some.inj h; subst hs
                    refine T_region_end [(6, { es := some (([(UInt8.ofNat (IntKind.u8.wrap (IntKind.i64.wrap ((IntKind.i64.wrap (v4 * (16 : Int))) + y2))).toNat)]).map cU) }), (7, { es := some (l1.map cU) })] [0, 2, 5, 6, 7, 12, 14, 15] [] [(0, .d (.str a0)), (2, .box [.d (.v (.int .i64 0)), .d (.v (.int .i64 0)), .d (.str []), .d (.v (.int .i64 0)), .d (.v (.int .i64 0))]), (5, .own 5 1 (l1.map cU)), (6, .d (.v (.int .i64 v2))), (7, .d (.v (.int .i64 v3))), (12, .d (.v (.int .i64 y2))), (14, .d (.v (.int .i64 (a0.length : Int)))), (15, .d (.v (.int .i64 v5)))] [(6, [[Dat.v (.int .u8 (IntKind.u8.wrap (IntKind.i64.wrap ((IntKind.i64.wrap (v4 * (16 : Int))) + y2))))]] = (([(UInt8.ofNat (IntKind.u8.wrap (IntKind.i64.wrap ((IntKind.i64.wrap (v4 * (16 : Int))) + y2))).toNat)]).map cU)), (0, (v1.map cU).length + (([(UInt8.ofNat (IntKind.u8.wrap (IntKind.i64.wrap ((IntKind.i64.wrap (v4 * (16 : Int))) + y2))).toNat)]).map cU).length ≤ 4294967296 ∧ (v1.map cU) ++ (([(UInt8.ofNat (IntKind.u8.wrap (IntKind.i64.wrap ((IntKind.i64.wrap (v4 * (16 : Int))) + y2))).toNat)]).map cU) = (l1.map cU))] 1 (by kernel_rfl) (⟨(lit_u hp4 (rfl : ([] : List (List Dat)) = ([] : List UInt8).map cU)), and_trans (app_ok cU hp5) (by subst hl1; rfl)⟩) fun a w hm => then_norm (hm.co (cs := [.keep [0, 2, 5, 6, 7, 12, 14, 15]]) (by show _ = _; kernel_rfl))
                  · have h := cond_ff hc h
                    obtain hs := Option.some.inj h; subst hs
                    refine T_skip fun a w hm => then_norm (hm.co (cs := [.keep [0, 2, 5, 6, 7, 12, 14, 15]]) (by show _ = _; kernel_rfl))
                · skip
                  refine T_region [] [0, 2, 5, 6, 7, 8, 14, 15] [] [(0, .d (.str a0)), (2, .box [.d (.v (.int .i64 0)), .d (.v (.int .i64 0)), .d (.str []), .d (.v (.int .i64 0)), .d (.v (.int .i64 0))]), (5, .own 5 1 (v6.map cU)), (6, .d (.v (.int .i64 v2))), (7, .d (.v (.int .i64 v3))), (8, .d (.v (.int .i64 y2))), (14, .d (.v (.int .i64 (a0.length : Int)))), (15, .d (.v (.int .i64 v5)))] [] 2 (by kernel_rfl) (trivial) ?_
                  obtain hs := Option.some.inj h; subst hs
                  refine T_region_end [] [0, 2, 5, 6, 7, 8, 14, 15] [] [(0, .d (.str a0)), (2, .box [.d (.v (.int .i64 0)), .d (.v (.int .i64 0)), .d (.str []), .d (.v (.int .i64 0)), .d (.v (.int .i64 0))]), (5, .own 5 1 (v6.map cU)), (6, .d (.v (.int .i64 v2))), (7, .d (.v (.int .i64 ((IntKind.i64.wrap (v3 + (1 : Int))).tmod (4 : Int))))), (8, .d (.v (.int .i64 y2))), (14, .d (.v (.int .i64 (a0.length : Int)))), (15, .d (.v (.int .i64 v5)))] [(2, (4 : Int) ≠ 0)] 1 (by kernel_rfl) ((show (4 : Int) ≠ 0 by decide)) fun a w hm => inBlock_norm (inBlock_norm (then_norm (⟨_, rfl, hm.co (cs := [.keep [0, 2, 5, 6, 7, 8, 14, 15]]) (by show _ = _; kernel_rfl)⟩)))
            · have h := cond_ff hc h
              refine T_region [] [0, 2, 5, 6, 7, 8, 9, 10, 14, 15, 80] [] [(0, .d (.str a0)), (2, .box [.d (.v (.int .i64 0)), .d (.v (.int .i64 0)), .d (.str []), .d (.v (.int .i64 0)), .d (.v (.int .i64 0))]), (5, .own 5 1 (v1.map cU)), (6, .d (.v (.int .i64 v2))), (7, .d (.v (.int .i64 v3))), (8, .d (.v (.int .i64 v4))), (9, .d (.v (.int .i64 v5))), (10, .d (.v (.int .u8 ((a0.getD v5.toNat 0).toNat : Int)))), (14, .d (.v (.int .i64 (a0.length : Int)))), (15, .d (.v (.int .i64 v5))), (80, .d (.v (.bool (((a0.getD v5.toNat 0).toNat : Int) == (92 : Int)))))] [] 3 (by kernel_rfl) (trivial) ?_
              refine T_cond (((a0.getD v5.toNat 0).toNat : Int) == (92 : Int)) (by kernel_rfl) (fun hc => ?_) (fun hc => ?_)
              · have h := cond_tt hc h
                obtain hs := Option.some.inj h; subst hs
                refine T_region_end [] [0, 2, 5, 6, 7, 8, 14, 15] [] [(0, .d (.str a0)), (2, .box [.d (.v (.int .i64 0)), .d (.v (.int .i64 0)), .d (.str []), .d (.v (.int .i64 0)), .d (.v (.int .i64 0))]), (5, .own 5 1 (v1.map cU)), (6, .d (.v (.int .i64 v2))), (7, .d (.v (.int .i64 (1 : Int)))), (8, .d (.v (.int .i64 v4))), (14, .d (.v (.int .i64 (a0.length : Int)))), (15, .d (.v (.int .i64 v5)))] [] 1 (by kernel_rfl) (trivial) fun a w hm => inBlock_norm (inBlock_norm (then_norm (⟨_, rfl, hm.co (cs := [.keep [0, 2, 5, 6, 7, 8, 14, 15]]) (by show _ = _; kernel_rfl)⟩)))
              · have h := cond_ff hc h
                refine T_region [] [0, 2, 5, 6, 7, 8, 9, 10, 14, 15, 83] [] [(0, .d (.str a0)), (2, .box [.d (.v (.int .i64 0)), .d (.v (.int .i64 0)), .d (.str []), .d (.v (.int .i64 0)), .d (.v (.int .i64 0))]), (5, .own 5 1 (v1.map cU)), (6, .d (.v (.int .i64 v2))), (7, .d (.v (.int .i64 v3))), (8, .d (.v (.int .i64 v4))), (9, .d (.v (.int .i64 v5))), (10, .d (.v (.int .u8 ((a0.getD v5.toNat 0).toNat : Int)))), (14, .d (.v (.int .i64 (a0.length : Int)))), (15, .d (.v (.int .i64 v5))), (83, .d (.v (.bool (bif (((a0.getD v5.toNat 0).toNat : Int) == (41 : Int)) then (v2 == (1 : Int)) else false))))] [(3, ((((((a0.getD v5.toNat 0).toNat : Int) == (41 : Int)) == true) && true) = true → True)), (0, ((((((a0.getD v5.toNat 0).toNat : Int) == (41 : Int)) == true) && true) = true → True))] 2 (by kernel_rfl) (⟨(fun hg => trivial), (fun hg => trivial)⟩) ?_
                refine T_cond (bif (((a0.getD v5.toNat 0).toNat : Int) == (41 : Int)) then (v2 == (1 : Int)) else false) (by kernel_rfl) (fun hc => ?_) (fun hc => ?_)
                · have h := cond_tt hc h
                  refine T_seqk ?_
                  refine T_region [(1, { rw := some (.d (.v (.int .i64 (v1.length : Int)))) })] [2, 5, 9, 92] [] [(2, .box [.d (.v (.int .i64 0)), .d (.v (.int .i64 0)), .d (.str []), .d (.v (.int .i64 0)), .d (.v (.int .i64 0))]), (5, .own 5 1 (v1.map cU)), (9, .d (.v (.int .i64 v5))), (92, .d (.v (.bool (decide ((v1.length : Int) > (1024 : Int))))))] [(1, True ∧ AV.d (.v (.int .i64 ((v1.map cU).length : Int))) = .d (.v (.int .i64 (v1.length : Int))))] 1 (by kernel_rfl) (len_ok cU) ?_
                  refine T_cond (decide ((v1.length : Int) > (1024 : Int))) (by kernel_rfl) (fun hc => ?_) (fun hc => ?_)
                  · have h := cond_tt hc h
                    refine T_region [] [2, 3, 4] [] [(2, .box [.d (.v (.int .i64 0)), .d (.v (.int .i64 0)), .d (.str []), .d (.v (.int .i64 0)), .d (.v (.int .i64 0))]), (3, .d (.v (.int .i64 (0 : Int)))), (4, .d (.v (.int .i64 (2 : Int))))] [] 4 (by kernel_rfl) (trivial) ?_
                    obtain hs := Option.some.inj h; subst hs
                    have h := callE_esc hk2
                    obtain hs := Option.some.inj h; subst hs
                    have h := callE_esc hk1
                    obtain hs := Option.some.inj h; subst hs
                    refine T_ret fun a w hm => then_ret (inBlock_ret (inBlock_ret (then_ret (then_ret (inBlock_ret (then_ret (then_ret (T_returnC (fr' := [(2, .box [.d (.v (.int .i64 0)), .d (.v (.int .i64 0)), .d (.str []), .d (.v (.int .i64 0)), .d (.v (.int .i64 0))]), (3, .d (.v (.int .i64 (0 : Int)))), (4, .d (.v (.int .i64 (2 : Int))))]) (ts := [104, 3, 4]) (N' := 105) (fr2 := [(104, .agg (cS_Token (S_Token.mk 0 0 [] 0 0)))] ++ [(2, .box [.d (.v (.int .i64 0)), .d (.v (.int .i64 0)), .d (.str []), .d (.v (.int .i64 0)), .d (.v (.int .i64 0))]), (3, .d (.v (.int .i64 (0 : Int)))), (4, .d (.v (.int .i64 (2 : Int))))]) [.keep [2, 3, 4]] (by kernel_rfl) (by kernel_rfl) (by kernel_rfl) (by kernel_rfl) (by show _ = _; kernel_rfl) (by exact trivial) a w hm))))))))
                  · have h := cond_ff hc h
                    refine T_skip fun a w hm => then_norm (((?_ : T Tryd.prog e 104 _ _ _) a w hm))
                    refine T_region [(1, { cs := [.str v1] })] [2, 3, 4] [] [(2, .box [.d (.v (.int .i64 (3 : Int))), .d (.v (.int .i64 0)), .d (.str v1), .d (.v (.int .i64 0)), .d (.v (.int .i64 0))]), (3, .d (.v (.int .i64 (IntKind.i64.wrap (v5 + (1 : Int)))))), (4, .d (.v (.int .i64 (0 : Int))))] [(1, (v1.map cU) = byteCells v1)] 6 (by kernel_rfl) (rfl) ?_
                    obtain hs := Option.some.inj h; subst hs
                    have h := callE_esc hk2
                    obtain hs := Option.some.inj h; subst hs
                    have h := callE_esc hk1
                    obtain hs := Option.some.inj h; subst hs
                    refine T_ret fun a w hm => inBlock_ret (inBlock_ret (then_ret (then_ret (inBlock_ret (then_ret (then_ret (T_returnC (fr' := [(2, .box [.d (.v (.int .i64 (3 : Int))), .d (.v (.int .i64 0)), .d (.str v1), .d (.v (.int .i64 0)), .d (.v (.int .i64 0))]), (3, .d (.v (.int .i64 (IntKind.i64.wrap (v5 + (1 : Int)))))), (4, .d (.v (.int .i64 (0 : Int))))]) (ts := [104, 3, 4]) (N' := 105) (fr2 := [(104, .agg (cS_Token (S_Token.mk (3 : Int) 0 v1 0 0)))] ++ [(2, .box [.d (.v (.int .i64 (3 : Int))), .d (.v (.int .i64 0)), .d (.str v1), .d (.v (.int .i64 0)), .d (.v (.int .i64 0))]), (3, .d (.v (.int .i64 (IntKind.i64.wrap (v5 + (1 : Int)))))), (4, .d (.v (.int .i64 (0 : Int))))]) [.keep [2, 3, 4]] (by kernel_rfl) (by kernel_rfl) (by kernel_rfl) (by kernel_rfl) (by show _ = _; kernel_rfl) (by exact trivial) a w hm)))))))
                · have h := cond_ff hc h
                  refine T_joinc h (fun (p : Int) => [(0, .d (.str a0)), (2, .box [.d (.v (.int .i64 0)), .d (.v (.int .i64 0)), .d (.str []), .d (.v (.int .i64 0)), .d (.v (.int .i64 0))]), (5, .own 5 1 (v1.map cU)), (6, .d (.v (.int .i64 p))), (7, .d (.v (.int .i64 v3))), (8, .d (.v (.int .i64 v4))), (10, .d (.v (.int .u8 ((a0.getD v5.toNat 0).toNat : Int)))), (14, .d (.v (.int .i64 (a0.length : Int)))), (15, .d (.v (.int .i64 v5)))]) (fun s h => ?_) (fun v7 h => ?_)
                  · refine T_region [] [0, 2, 5, 6, 7, 8, 10, 14, 15, 22] [] [(0, .d (.str a0)), (2, .box [.d (.v (.int .i64 0)), .d (.v (.int .i64 0)), .d (.str []), .d (.v (.int .i64 0)), .d (.v (.int .i64 0))]), (5, .own 5 1 (v1.map cU)), (6, .d (.v (.int .i64 v2))), (7, .d (.v (.int .i64 v3))), (8, .d (.v (.int .i64 v4))), (10, .d (.v (.int .u8 ((a0.getD v5.toNat 0).toNat : Int)))), (14, .d (.v (.int .i64 (a0.length : Int)))), (15, .d (.v (.int .i64 v5))), (22, .d (.v (.bool (((a0.getD v5.toNat 0).toNat : Int) == (40 : Int)))))] [] 2 (by kernel_rfl) (trivial) ?_
                    refine T_cond (((a0.getD v5.toNat 0).toNat : Int) == (40 : Int)) (by kernel_rfl) (fun hc => ?_) (fun hc => ?_)
                    · have h := cond_tt hc h
                      obtain hs := Option.some.inj h; subst hs
                      refine T_region_end [] [0, 2, 5, 6, 7, 8, 10, 14, 15] [] [(0, .d (.str a0)), (2, .box [.d (.v (.int .i64 0)), .d (.v (.int .i64 0)), .d (.str []), .d (.v (.int .i64 0)), .d (.v (.int .i64 0))]), (5, .own 5 1 (v1.map cU)), (6, .d (.v (.int .i64 (IntKind.i64.wrap (v2 + (1 : Int)))))), (7, .d (.v (.int .i64 v3))), (8, .d (.v (.int .i64 v4))), (10, .d (.v (.int .u8 ((a0.getD v5.toNat 0).toNat : Int)))), (14, .d (.v (.int .i64 (a0.length : Int)))), (15, .d (.v (.int .i64 v5)))] [] 3 (by kernel_rfl) (trivial) fun a w hm => then_norm (hm.co (cs := [.keep [0, 2, 5, 6, 7, 8, 10, 14, 15]]) (by show _ = _; kernel_rfl))
                    · have h := cond_ff hc h
                      obtain hs := Option.some.inj h; subst hs
                      refine T_skip fun a w hm => then_norm (hm.co (cs := [.keep [0, 2, 5, 6, 7, 8, 10, 14, 15]]) (by show _ = _; kernel_rfl))
                  · skip
                    refine T_joinc h (fun (p : Int) => [(0, .d (.str a0)), (2, .box [.d (.v (.int .i64 0)), .d (.v (.int .i64 0)), .d (.str []), .d (.v (.int .i64 0)), .d (.v (.int .i64 0))]), (5, .own 5 1 (v1.map cU)), (6, .d (.v (.int .i64 p))), (7, .d (.v (.int .i64 v3))), (8, .d (.v (.int .i64 v4))), (10, .d (.v (.int .u8 ((a0.getD v5.toNat 0).toNat : Int)))), (14, .d (.v (.int .i64 (a0.length : Int)))), (15, .d (.v (.int .i64 v5)))]) (fun s h => ?_) (fun v8 h => ?_)
                    · refine T_region [] [0, 2, 5, 6, 7, 8, 10, 14, 15, 26] [] [(0, .d (.str a0)), (2, .box [.d (.v (.int .i64 0)), .d (.v (.int .i64 0)), .d (.str []), .d (.v (.int .i64 0)), .d (.v (.int .i64 0))]), (5, .own 5 1 (v1.map cU)), (6, .d (.v (.int .i64 v7))), (7, .d (.v (.int .i64 v3))), (8, .d (.v (.int .i64 v4))), (10, .d (.v (.int .u8 ((a0.getD v5.toNat 0).toNat : Int)))), (14, .d (.v (.int .i64 (a0.length : Int)))), (15, .d (.v (.int .i64 v5))), (26, .d (.v (.bool (((a0.getD v5.toNat 0).toNat : Int) == (41 : Int)))))] [] 2 (by kernel_rfl) (trivial) ?_
                      refine T_cond (((a0.getD v5.toNat 0).toNat : Int) == (41 : Int)) (by kernel_rfl) (fun hc => ?_) (fun hc => ?_)
                      · have h := cond_tt hc h
                        obtain hs := Option.some.inj h; subst hs
                        refine T_region_end [] [0, 2, 5, 6, 7, 8, 10, 14, 15] [] [(0, .d (.str a0)), (2, .box [.d (.v (.int .i64 0)), .d (.v (.int .i64 0)), .d (.str []), .d (.v (.int .i64 0)), .d (.v (.int .i64 0))]), (5, .own 5 1 (v1.map cU)), (6, .d (.v (.int .i64 (IntKind.i64.wrap (v7 - (1 : Int)))))), (7, .d (.v (.int .i64 v3))), (8, .d (.v (.int .i64 v4))), (10, .d (.v (.int .u8 ((a0.getD v5.toNat 0).toNat : Int)))), (14, .d (.v (.int .i64 (a0.length : Int)))), (15, .d (.v (.int .i64 v5)))] [] 3 (by kernel_rfl) (trivial) fun a w hm => then_norm (hm.co (cs := [.keep [0, 2, 5, 6, 7, 8, 10, 14, 15]]) (by show _ = _; kernel_rfl))
                      · have h := cond_ff hc h
                        obtain hs := Option.some.inj h; subst hs
                        refine T_skip fun a w hm => then_norm (hm.co (cs := [.keep [0, 2, 5, 6, 7, 8, 10, 14, 15]]) (by show _ = _; kernel_rfl))
                    · skip
                      refine T_seqk ?_
                      refine T_region [] [0, 2, 5, 6, 7, 8, 10, 14, 15, 30] [] [(0, .d (.str a0)), (2, .box [.d (.v (.int .i64 0)), .d (.v (.int .i64 0)), .d (.str []), .d (.v (.int .i64 0)), .d (.v (.int .i64 0))]), (5, .own 5 1 (v1.map cU)), (6, .d (.v (.int .i64 v8))), (7, .d (.v (.int .i64 v3))), (8, .d (.v (.int .i64 v4))), (10, .d (.v (.int .u8 ((a0.getD v5.toNat 0).toNat : Int)))), (14, .d (.v (.int .i64 (a0.length : Int)))), (15, .d (.v (.int .i64 v5))), (30, .d (.v (.bool (decide (v8 > (16 : Int))))))] [] 2 (by kernel_rfl) (trivial) ?_
                      refine T_cond (decide (v8 > (16 : Int))) (by kernel_rfl) (fun hc => ?_) (fun hc => ?_)
                      · have h := cond_tt hc h
                        refine T_region [] [2, 3, 4] [] [(2, .box [.d (.v (.int .i64 0)), .d (.v (.int .i64 0)), .d (.str []), .d (.v (.int .i64 0)), .d (.v (.int .i64 0))]), (3, .d (.v (.int .i64 (0 : Int)))), (4, .d (.v (.int .i64 (15 : Int))))] [] 4 (by kernel_rfl) (trivial) ?_
                        obtain hs := Option.some.inj h; subst hs
                        have h := callE_esc hk2
                        obtain hs := Option.some.inj h; subst hs
                        have h := callE_esc hk1
                        obtain hs := Option.some.inj h; subst hs
                        refine T_ret fun a w hm => then_ret (inBlock_ret (inBlock_ret (then_ret (then_ret (inBlock_ret (then_ret (then_ret (T_returnC (fr' := [(2, .box [.d (.v (.int .i64 0)), .d (.v (.int .i64 0)), .d (.str []), .d (.v (.int .i64 0)), .d (.v (.int .i64 0))]), (3, .d (.v (.int .i64 (0 : Int)))), (4, .d (.v (.int .i64 (15 : Int))))]) (ts := [104, 3, 4]) (N' := 105) (fr2 := [(104, .agg (cS_Token (S_Token.mk 0 0 [] 0 0)))] ++ [(2, .box [.d (.v (.int .i64 0)), .d (.v (.int .i64 0)), .d (.str []), .d (.v (.int .i64 0)), .d (.v (.int .i64 0))]), (3, .d (.v (.int .i64 (0 : Int)))), (4, .d (.v (.int .i64 (15 : Int))))]) [.keep [2, 3, 4]] (by kernel_rfl) (by kernel_rfl) (by kernel_rfl) (by kernel_rfl) (by show _ = _; kernel_rfl) (by exact trivial) a w hm))))))))
                      · have h := cond_ff hc h
                        refine T_skip fun a w hm => then_norm (((?_ : T Tryd.prog e 104 _ _ _) a w hm))
                        obtain ⟨hp6, h⟩ := chk_ok h
                        obtain ⟨hp7, h⟩ := chk_ok h
                        obtain hs := Option.some.inj h; subst hs
                        refine T_region_end [(2, { es := some (([(UInt8.ofNat ((a0.getD v5.toNat 0).toNat : Int).toNat)]).map cU) }), (3, { es := some ((v1 ++ ([(UInt8.ofNat ((a0.getD v5.toNat 0).toNat : Int).toNat)])).map cU) })] [0, 2, 5, 6, 7, 8, 14, 15] [] [(0, .d (.str a0)), (2, .box [.d (.v (.int .i64 0)), .d (.v (.int .i64 0)), .d (.str []), .d (.v (.int .i64 0)), .d (.v (.int .i64 0))]), (5, .own 5 1 ((v1 ++ ([(UInt8.ofNat ((a0.getD v5.toNat 0).toNat : Int).toNat)])).map cU)), (6, .d (.v (.int .i64 v8))), (7, .d (.v (.int .i64 v3))), (8, .d (.v (.int .i64 v4))), (14, .d (.v (.int .i64 (a0.length : Int)))), (15, .d (.v (.int .i64 v5)))] [(2, [[Dat.v (.int .u8 ((a0.getD v5.toNat 0).toNat : Int))]] = (([(UInt8.ofNat ((a0.getD v5.toNat 0).toNat : Int).toNat)]).map cU)), (0, (v1.map cU).length + (([(UInt8.ofNat ((a0.getD v5.toNat 0).toNat : Int).toNat)]).map cU).length ≤ 4294967296 ∧ (v1.map cU) ++ (([(UInt8.ofNat ((a0.getD v5.toNat 0).toNat : Int).toNat)]).map cU) = ((v1 ++ ([(UInt8.ofNat ((a0.getD v5.toNat 0).toNat : Int).toNat)])).map cU))] 1 (by kernel_rfl) (⟨(lit_u hp6 (rfl : ([] : List (List Dat)) = ([] : List UInt8).map cU)), app_ok cU hp7⟩) fun a w hm => inBlock_norm (inBlock_norm (then_norm (⟨_, rfl, hm.co (cs := [.keep [0, 2, 5, 6, 7, 8, 14, 15]]) (by show _ = _; kernel_rfl)⟩)))
      · obtain ⟨v9, v10, v11, v12⟩ := s
        try dsimp only at h
        refine T_region_end [] [0, 2, 5, 6, 7, 8, 14, 15] [] [(0, .d (.str a0)), (2, .box [.d (.v (.int .i64 0)), .d (.v (.int .i64 0)), .d (.str []), .d (.v (.int .i64 0)), .d (.v (.int .i64 0))]), (5, .own 5 1 (v9.map cU)), (6, .d (.v (.int .i64 v12))), (7, .d (.v (.int .i64 v10))), (8, .d (.v (.int .i64 v11))), (14, .d (.v (.int .i64 (a0.length : Int)))), (15, .d (.v (.int .i64 (IntKind.i64.wrap (v5 + (1 : Int))))))] [] 2 (by kernel_rfl) (trivial) fun a w hm => then_norm (⟨(v9, v12, v10, v11, IntKind.i64.wrap (v5 + (1 : Int))), h, hm.co (cs := [.keep [0, 2, 5, 6, 7, 8, 14, 15]]) (by show _ = _; kernel_rfl)⟩)
    · have h := cond_ff hc h
      obtain hs := Option.some.inj h; subst hs
      refine T_exit fun a w hm => then_exit (then_exit (inBlock_exit (then_norm (⟨_, rfl, hm.co (cs := [.keep [2, 7]]) (by show _ = _; kernel_rfl)⟩))))
  · skip
    refine fun a w hm => then_norm (((?_ : T Tryd.prog e 104 _ _ _) a w hm))
    refine T_seqk ?_
    refine T_region [] [2, 101] [] [(2, .box [.d (.v (.int .i64 0)), .d (.v (.int .i64 0)), .d (.str []), .d (.v (.int .i64 0)), .d (.v (.int .i64 0))]), (101, .d (.v (.bool (decide (v13 > (1 : Int))))))] [] 2 (by kernel_rfl) (trivial) ?_
    refine T_cond (decide (v13 > (1 : Int))) (by kernel_rfl) (fun hc => ?_) (fun hc => ?_)
    · have h := cond_tt hc h
      refine T_region [] [2, 3, 4] [] [(2, .box [.d (.v (.int .i64 0)), .d (.v (.int .i64 0)), .d (.str []), .d (.v (.int .i64 0)), .d (.v (.int .i64 0))]), (3, .d (.v (.int .i64 (0 : Int)))), (4, .d (.v (.int .i64 (5 : Int))))] [] 4 (by kernel_rfl) (trivial) ?_
      obtain hs := Option.some.inj h; subst hs
      refine T_ret fun a w hm => then_ret (T_returnC (fr' := [(2, .box [.d (.v (.int .i64 0)), .d (.v (.int .i64 0)), .d (.str []), .d (.v (.int .i64 0)), .d (.v (.int .i64 0))]), (3, .d (.v (.int .i64 (0 : Int)))), (4, .d (.v (.int .i64 (5 : Int))))]) (ts := [104, 3, 4]) (N' := 105) (fr2 := [(104, .agg (cS_Token (S_Token.mk 0 0 [] 0 0)))] ++ [(2, .box [.d (.v (.int .i64 0)), .d (.v (.int .i64 0)), .d (.str []), .d (.v (.int .i64 0)), .d (.v (.int .i64 0))]), (3, .d (.v (.int .i64 (0 : Int)))), (4, .d (.v (.int .i64 (5 : Int))))]) [.keep [2, 3, 4]] (by kernel_rfl) (by kernel_rfl) (by kernel_rfl) (by kernel_rfl) (by show _ = _; kernel_rfl) (by exact trivial) a w hm)
    · have h := cond_ff hc h
      refine T_skip fun a w hm => then_norm (((?_ : T Tryd.prog e 104 _ _ _) a w hm))
      refine T_region [] [2, 3, 4] [] [(2, .box [.d (.v (.int .i64 0)), .d (.v (.int .i64 0)), .d (.str []), .d (.v (.int .i64 0)), .d (.v (.int .i64 0))]), (3, .d (.v (.int .i64 (0 : Int)))), (4, .d (.v (.int .i64 (12 : Int))))] [] 4 (by kernel_rfl) (trivial) ?_
      obtain hs := Option.some.inj h; subst hs
      refine T_ret fun a w hm => T_returnC (fr' := [(2, .box [.d (.v (.int .i64 0)), .d (.v (.int .i64 0)), .d (.str []), .d (.v (.int .i64 0)), .d (.v (.int .i64 0))]), (3, .d (.v (.int .i64 (0 : Int)))), (4, .d (.v (.int .i64 (12 : Int))))]) (ts := [104, 3, 4]) (N' := 105) (fr2 := [(104, .agg (cS_Token (S_Token.mk 0 0 [] 0 0)))] ++ [(2, .box [.d (.v (.int .i64 0)), .d (.v (.int .i64 0)), .d (.str []), .d (.v (.int .i64 0)), .d (.v (.int .i64 0))]), (3, .d (.v (.int .i64 (0 : Int)))), (4, .d (.v (.int .i64 (12 : Int))))]) [.keep [2, 3, 4]] (by kernel_rfl) (by kernel_rfl) (by kernel_rfl) (by kernel_rfl) (by show _ = _; kernel_rfl) (by exact trivial) a w hm

theorem ref3_hexToken_ok {F : Nat} {a0 : List UInt8} {r : S_Token × Int × Int} (h : ref3_hexToken F a0 = some r) : ACall Tryd.prog 82 [.d (.str a0)] [] (.tup [.agg (cS_Token r.1), .d (.v (.int .i64 r.2.1)), .d (.v (.int .i64 r.2.2))]) [] := by
  rw [ref3_hexToken] at h
  refine ACall.intro (N := 76) Tryd.func82 rfl rfl rfl rfl rfl fun e => ?_
  refine T_region [] [0, 2] [] [(0, .d (.str a0)), (2, .box [.d (.v (.int .i64 0)), .d (.v (.int .i64 0)), .d (.str []), .d (.v (.int .i64 0)), .d (.v (.int .i64 0))])] [] 3 (by kernel_rfl) (trivial) ?_
  refine T_region [] [0, 2, 5] [] [(0, .d (.str a0)), (2, .box [.d (.v (.int .i64 0)), .d (.v (.int .i64 0)), .d (.str []), .d (.v (.int .i64 0)), .d (.v (.int .i64 0))]), (5, .own 3 1 ([].map (cI .i64)))] [] 1 (by kernel_rfl) (trivial) ?_
  refine T_seqk ?_
  refine T_region [] [0, 2, 5, 10, 11] [] [(0, .d (.str a0)), (2, .box [.d (.v (.int .i64 0)), .d (.v (.int .i64 0)), .d (.str []), .d (.v (.int .i64 0)), .d (.v (.int .i64 0))]), (5, .own 3 1 ([].map (cI .i64))), (10, .d (.v (.int .i64 (a0.length : Int)))), (11, .d (.v (.int .i64 (0 : Int))))] [] 3 (by kernel_rfl) (trivial) ?_
  refine T_joinEt h (fun (p : Unit) => [(2, .box [.d (.v (.int .i64 0)), .d (.v (.int .i64 0)), .d (.str []), .d (.v (.int .i64 0)), .d (.v (.int .i64 0))])]) (fun s h hk1 => ?_) (fun s h => ?_)
  · refine T_co [.keep [0, 2, 5, 10, 11]] ((fun (p : (List Int) × Int) => [(0, .d (.str a0)), (2, .box [.d (.v (.int .i64 0)), .d (.v (.int .i64 0)), .d (.str []), .d (.v (.int .i64 0)), .d (.v (.int .i64 0))]), (5, .own 3 1 (p.1.map (cI .i64))), (10, .d (.v (.int .i64 (a0.length : Int)))), (11, .d (.v (.int .i64 p.2)))]) ([], (0 : Int))) (by show _ = _; kernel_rfl) ?_
    refine T_block ?_
    refine T_loopF (ι := (List Int) × Int) (fun (p : (List Int) × Int) => [(0, .d (.str a0)), (2, .box [.d (.v (.int .i64 0)), .d (.v (.int .i64 0)), .d (.str []), .d (.v (.int .i64 0)), .d (.v (.int .i64 0))]), (5, .own 3 1 (p.1.map (cI .i64))), (10, .d (.v (.int .i64 (a0.length : Int)))), (11, .d (.v (.int .i64 p.2)))]) (fun n p => ref3_hexToken_L0 F a0 n p.1 p.2 = some s) (fun i hh => by simp [ref3_hexToken_L0] at hh) (fun n p h => ?_) F ([], (0 : Int)) h
    obtain ⟨v1, v4⟩ := p
    have h : ref3_hexToken_L0 F a0 (n + 1) v1 v4 = some s := h
    rw [ref3_hexToken_L0] at h
    refine T_region [] [0, 2, 5, 10, 11, 12] [] [(0, .d (.str a0)), (2, .box [.d (.v (.int .i64 0)), .d (.v (.int .i64 0)), .d (.str []), .d (.v (.int .i64 0)), .d (.v (.int .i64 0))]), (5, .own 3 1 (v1.map (cI .i64))), (10, .d (.v (.int .i64 (a0.length : Int)))), (11, .d (.v (.int .i64 v4))), (12, .d (.v (.bool (decide (v4 < (a0.length : Int))))))] [] 1 (by kernel_rfl) (trivial) ?_
    refine T_seqk ?_
    refine T_cond (decide (v4 < (a0.length : Int))) (by kernel_rfl) (fun hc => ?_) (fun hc => ?_)
    · have h := cond_tt hc h
      refine T_skip fun a w hm => then_norm (((?_ : T Tryd.prog e 76 _ _ _) a w hm))
      refine T_joinE h (fun (p : (List Int)) => [(0, .d (.str a0)), (2, .box [.d (.v (.int .i64 0)), .d (.v (.int .i64 0)), .d (.str []), .d (.v (.int .i64 0)), .d (.v (.int .i64 0))]), (5, .own 3 1 (p.map (cI .i64))), (10, .d (.v (.int .i64 (a0.length : Int)))), (11, .d (.v (.int .i64 v4)))]) (fun s h hk2 => ?_) (fun v6 h => ?_)
      · refine T_block ?_
        refine T_region [] [0, 2, 5, 6, 10, 11] [] [(0, .d (.str a0)), (2, .box [.d (.v (.int .i64 0)), .d (.v (.int .i64 0)), .d (.str []), .d (.v (.int .i64 0)), .d (.v (.int .i64 0))]), (5, .own 3 1 (v1.map (cI .i64))), (6, .d (.v (.int .i64 v4))), (10, .d (.v (.int .i64 (a0.length : Int)))), (11, .d (.v (.int .i64 v4)))] [] 2 (by kernel_rfl) (trivial) ?_
        refine T_block ?_
        obtain ⟨hp1, h⟩ := chk_ok h
        obtain ⟨y1, hy1, h⟩ := call_ok h
        refine T_region [(3, { res := .d (.v (.bool y1)) })] [0, 2, 5, 6, 10, 11, 21] [] [(0, .d (.str a0)), (2, .box [.d (.v (.int .i64 0)), .d (.v (.int .i64 0)), .d (.str []), .d (.v (.int .i64 0)), .d (.v (.int .i64 0))]), (5, .own 3 1 (v1.map (cI .i64))), (6, .d (.v (.int .i64 v4))), (10, .d (.v (.int .i64 (a0.length : Int)))), (11, .d (.v (.int .i64 v4))), (21, .d (.v (.bool y1)))] [(2, 0 ≤ v4 ∧ v4 < a0.length), (0, ACall Tryd.prog 76 [.d (.v (.int .u8 ((a0.getD v4.toNat 0).toNat : Int)))] [] (.d (.v (.bool y1))) [])] 1 (by kernel_rfl) (⟨hp1, ref3_blank_ok hy1⟩) ?_
        refine T_cond y1 (by kernel_rfl) (fun hc => ?_) (fun hc => ?_)
        · have h := cond_tt hc h
          obtain hs := Option.some.inj h; subst hs
          refine T_skip fun a w hm => inBlock_norm (inBlock_norm (then_norm (⟨_, rfl, hm.co (cs := [.keep [0, 2, 5, 10, 11]]) (by show _ = _; kernel_rfl)⟩)))
        · have h := cond_ff hc h
          obtain ⟨hp2, h⟩ := chk_ok h
          obtain ⟨z2, hz1, h⟩ := lett_ok h
          refine T_region [(6, { rw := some (.d (.v (.int .i64 (v1.length : Int)))) }), (9, { rw := some (.d (.v (.bool z2))) })] [0, 2, 5, 6, 10, 11, 26] [] [(0, .d (.str a0)), (2, .box [.d (.v (.int .i64 0)), .d (.v (.int .i64 0)), .d (.str []), .d (.v (.int .i64 0)), .d (.v (.int .i64 0))]), (5, .own 3 1 (v1.map (cI .i64))), (6, .d (.v (.int .i64 v4))), (10, .d (.v (.int .i64 (a0.length : Int)))), (11, .d (.v (.int .i64 v4))), (26, .d (.v (.bool z2)))] [(2, 0 ≤ v4 ∧ v4 < a0.length), (2, ((((((a0.getD v4.toNat 0).toNat : Int) == (62 : Int)) == true) && true) = true → True)), (0, ((((((a0.getD v4.toNat 0).toNat : Int) == (62 : Int)) == true) && true) = true → True ∧ AV.d (.v (.int .i64 ((v1.map (cI .i64)).length : Int))) = .d (.v (.int .i64 (v1.length : Int))))), (0, ((((((a0.getD v4.toNat 0).toNat : Int) == (62 : Int)) == true) && true) = true → (2 : Int) ≠ 0)), (0, ((((((a0.getD v4.toNat 0).toNat : Int) == (62 : Int)) == true) && true) = true → True)), (0, (True) ∧ AV.d (.v (.bool (bif (((a0.getD v4.toNat 0).toNat : Int) == (62 : Int)) then (((v1.length : Int).tmod (2 : Int)) == (0 : Int)) else false))) = .d (.v (.bool z2)))] 1 (by kernel_rfl) (⟨hp2, (fun hg => trivial), (fun hg => len_ok (cI .i64)), (fun hg => (show (2 : Int) ≠ 0 by decide)), (fun hg => trivial), ⟨trivial, (by subst hz1; rfl)⟩⟩) ?_
          refine T_cond z2 (by kernel_rfl) (fun hc => ?_) (fun hc => ?_)
          · have h := cond_tt hc h
            refine T_region [] [2, 5, 6, 7] [] [(2, .box [.d (.v (.int .i64 0)), .d (.v (.int .i64 0)), .d (.str []), .d (.v (.int .i64 0)), .d (.v (.int .i64 0))]), (5, .own 3 1 (v1.map (cI .i64))), (6, .d (.v (.int .i64 v4))), (7, .own 5 1 ([].map cU))] [] 1 (by kernel_rfl) (trivial) ?_
            refine T_seqk ?_
            refine T_region [] [2, 5, 6, 7, 8] [] [(2, .box [.d (.v (.int .i64 0)), .d (.v (.int .i64 0)), .d (.str []), .d (.v (.int .i64 0)), .d (.v (.int .i64 0))]), (5, .own 3 1 (v1.map (cI .i64))), (6, .d (.v (.int .i64 v4))), (7, .own 5 1 ([].map cU)), (8, .d (.v (.int .i64 (0 : Int))))] [] 1 (by kernel_rfl) (trivial) ?_
            refine T_joinct h (fun (p : (List UInt8)) => [(2, .box [.d (.v (.int .i64 0)), .d (.v (.int .i64 0)), .d (.str []), .d (.v (.int .i64 0)), .d (.v (.int .i64 0))]), (6, .d (.v (.int .i64 v4))), (7, .own 5 1 (p.map cU))]) (fun s h => ?_) (fun v5 h => ?_)
            · refine T_co [.keep [2, 5, 6, 7, 8]] ((fun (p : (List UInt8) × Int) => [(2, .box [.d (.v (.int .i64 0)), .d (.v (.int .i64 0)), .d (.str []), .d (.v (.int .i64 0)), .d (.v (.int .i64 0))]), (5, .own 3 1 (v1.map (cI .i64))), (6, .d (.v (.int .i64 v4))), (7, .own 5 1 (p.1.map cU)), (8, .d (.v (.int .i64 p.2)))]) ([], (0 : Int))) (by show _ = _; kernel_rfl) ?_
              refine T_block ?_
              refine T_loopF (ι := (List UInt8) × Int) (fun (p : (List UInt8) × Int) => [(2, .box [.d (.v (.int .i64 0)), .d (.v (.int .i64 0)), .d (.str []), .d (.v (.int .i64 0)), .d (.v (.int .i64 0))]), (5, .own 3 1 (v1.map (cI .i64))), (6, .d (.v (.int .i64 v4))), (7, .own 5 1 (p.1.map cU)), (8, .d (.v (.int .i64 p.2)))]) (fun n p => ref3_hexToken_L3 F v1 n p.1 p.2 = some s) (fun i hh => by simp [ref3_hexToken_L3] at hh) (fun n p h => ?_) F ([], (0 : Int)) h
              obtain ⟨v2, v3⟩ := p
              have h : ref3_hexToken_L3 F v1 (n + 1) v2 v3 = some s := h
              rw [ref3_hexToken_L3] at h
              refine T_seqk ?_
              refine T_region [(2, { rw := some (.d (.v (.int .i64 (v1.length : Int)))) })] [2, 5, 6, 7, 8, 40] [] [(2, .box [.d (.v (.int .i64 0)), .d (.v (.int .i64 0)), .d (.str []), .d (.v (.int .i64 0)), .d (.v (.int .i64 0))]), (5, .own 3 1 (v1.map (cI .i64))), (6, .d (.v (.int .i64 v4))), (7, .own 5 1 (v2.map cU)), (8, .d (.v (.int .i64 v3))), (40, .d (.v (.bool (decide (v3 < (v1.length : Int))))))] [(2, True ∧ AV.d (.v (.int .i64 ((v1.map (cI .i64)).length : Int))) = .d (.v (.int .i64 (v1.length : Int))))] 1 (by kernel_rfl) (len_ok (cI .i64)) ?_
              refine T_cond (decide (v3 < (v1.length : Int))) (by kernel_rfl) (fun hc => ?_) (fun hc => ?_)
              · have h := cond_tt hc h
                refine T_skip fun a w hm => then_norm (((?_ : T Tryd.prog e 76 _ _ _) a w hm))
                refine T_seqk ?_
                refine T_block ?_
                obtain ⟨hp3, h⟩ := chk_ok h
                obtain ⟨hp4, h⟩ := chk_ok h
                obtain ⟨z1, hz2, h⟩ := lett_ok h
                obtain ⟨hp5, h⟩ := chk_ok h
                obtain ⟨hp6, h⟩ := chk_ok h
                refine T_drawX_end mixed 2 (.take 0 (.take 1 (.take 2 (.take 3 (.take 6 (.take 7 (.take 8 (.take 9 (.all (.alt 4 (.take 5 (.all (.alt 10 (.take 11 (.all (.alt 12 (.all (.alt 13 (.all (.alt 14 (.take 15 .done) .stop)) .stop)) .stop))) .stop))) (.alt 10 (.all (.alt 4 (.take 5 (.take 11 (.all (.alt 12 (.all (.alt 13 (.all (.alt 14 (.take 15 .done) .stop)) .stop)) .stop)))) .stop)) .stop))))))))))) ([0, 0, 0, 6, 8, 16, 0, 0, 128, 320, 512, 1056, 2048, 4096, 8193, 32767], [0, 0, 0, 6, 8, 16, 0, 0, 128, 320, 512, 1056, 2048, 4096, 8193, 16385]) 35823 [(4, { cs := (cI .i64) (v1.getD v3.toNat 0) }), (10, { cs := (cI .i64) (v1.getD (IntKind.i64.wrap (v3 + (1 : Int))).toNat 0) }), (11, { rw := some (.d (.v (.int .i64 z1))) }), (13, { es := some (([(UInt8.ofNat (IntKind.u8.wrap z1).toNat)]).map cU) }), (14, { es := some ((v2 ++ ([(UInt8.ofNat (IntKind.u8.wrap z1).toNat)])).map cU) })] [2, 5, 6, 7, 8] [] [(2, .box [.d (.v (.int .i64 0)), .d (.v (.int .i64 0)), .d (.str []), .d (.v (.int .i64 0)), .d (.v (.int .i64 0))]), (5, .own 3 1 (v1.map (cI .i64))), (6, .d (.v (.int .i64 v4))), (7, .own 5 1 ((v2 ++ ([(UInt8.ofNat (IntKind.u8.wrap z1).toNat)])).map cU)), (8, .d (.v (.int .i64 v3)))] ((fun (o3 : Prop) => fun (o4 : Prop) => fun (o9 : Prop) => fun (o10 : Prop) => fun (o11 : Prop) => fun (o13 : Prop) => fun (o14 : Prop) => [(3, o3), (3, o9), (0, o4), (1, o10), (0, o11), (1, o13), (0, o14), (1, o10), (0, o4), (1, o11), (1, o13), (0, o14)]) (0 ≤ v3 ∧ v3 < (v1.map (cI .i64)).length) ((v1.map (cI .i64))[v3.toNat]? = some ((cI .i64) (v1.getD v3.toNat 0))) (0 ≤ (IntKind.i64.wrap (v3 + (1 : Int))) ∧ (IntKind.i64.wrap (v3 + (1 : Int))) < (v1.map (cI .i64)).length) ((v1.map (cI .i64))[(IntKind.i64.wrap (v3 + (1 : Int))).toNat]? = some ((cI .i64) (v1.getD (IntKind.i64.wrap (v3 + (1 : Int))).toNat 0))) ((True) ∧ AV.d (.v (.int .i64 (IntKind.i64.wrap ((IntKind.i64.wrap ((v1.getD v3.toNat 0) * (16 : Int))) + (v1.getD (IntKind.i64.wrap (v3 + (1 : Int))).toNat 0))))) = .d (.v (.int .i64 z1))) ([[Dat.v (.int .u8 (IntKind.u8.wrap z1))]] = (([(UInt8.ofNat (IntKind.u8.wrap z1).toNat)]).map cU)) ((v2.map cU).length + (([(UInt8.ofNat (IntKind.u8.wrap z1).toNat)]).map cU).length ≤ 4294967296 ∧ (v2.map cU) ++ (([(UInt8.ofNat (IntKind.u8.wrap z1).toNat)]).map cU) = ((v2 ++ ([(UInt8.ofNat (IntKind.u8.wrap z1).toNat)])).map cU))) 1 (by kernel_rfl) (by kernel_rfl) (by kernel_rfl) (have p3 := own_idx (cI .i64) hp3; have p4 := (idx_ok (d := 0) (cI .i64) hp3).2; have p9 := own_idx (cI .i64) hp4; have p10 := (idx_ok (d := 0) (cI .i64) hp4).2; have p11 := ⟨trivial, (by subst hz2; rfl)⟩; have p13 := (lit_u hp5 (rfl : ([] : List (List Dat)) = ([] : List UInt8).map cU)); have p14 := app_ok cU hp6; ⟨p3, p9, p4, p10, p11, p13, p14, p10, p4, p11, p13, p14⟩) fun a w hm => inBlock_norm (then_norm (((?_ : T Tryd.prog e 76 _ _ _) a w hm)))
                refine T_region_end [] [2, 5, 6, 7, 8] [] [(2, .box [.d (.v (.int .i64 0)), .d (.v (.int .i64 0)), .d (.str []), .d (.v (.int .i64 0)), .d (.v (.int .i64 0))]), (5, .own 3 1 (v1.map (cI .i64))), (6, .d (.v (.int .i64 v4))), (7, .own 5 1 ((v2 ++ ([(UInt8.ofNat (IntKind.u8.wrap z1).toNat)])).map cU)), (8, .d (.v (.int .i64 (IntKind.i64.wrap (v3 + (2 : Int))))))] [] 3 (by kernel_rfl) (trivial) fun a w hm => then_norm (⟨((v2 ++ ([(UInt8.ofNat (IntKind.u8.wrap z1).toNat)])), IntKind.i64.wrap (v3 + (2 : Int))), h, hm.co (cs := [.keep [2, 5, 6, 7, 8]]) (by show _ = _; kernel_rfl)⟩)
              · have h := cond_ff hc h
                obtain hs := Option.some.inj h; subst hs
                refine T_exit fun a w hm => then_exit (then_exit (inBlock_exit (then_norm (hm.co (cs := [.keep [2, 6, 7]]) (by show _ = _; kernel_rfl)))))
            · skip
              refine fun a w hm => then_norm (((?_ : T Tryd.prog e 76 _ _ _) a w hm))
              refine T_seqk ?_
              refine T_region [(1, { rw := some (.d (.v (.int .i64 (v5.length : Int)))) })] [2, 6, 7, 60] [] [(2, .box [.d (.v (.int .i64 0)), .d (.v (.int .i64 0)), .d (.str []), .d (.v (.int .i64 0)), .d (.v (.int .i64 0))]), (6, .d (.v (.int .i64 v4))), (7, .own 5 1 (v5.map cU)), (60, .d (.v (.bool (decide ((v5.length : Int) > (1024 : Int))))))] [(1, True ∧ AV.d (.v (.int .i64 ((v5.map cU).length : Int))) = .d (.v (.int .i64 (v5.length : Int))))] 1 (by kernel_rfl) (len_ok cU) ?_
              refine T_cond (decide ((v5.length : Int) > (1024 : Int))) (by kernel_rfl) (fun hc => ?_) (fun hc => ?_)
              · have h := cond_tt hc h
                refine T_region [] [2, 3, 4] [] [(2, .box [.d (.v (.int .i64 0)), .d (.v (.int .i64 0)), .d (.str []), .d (.v (.int .i64 0)), .d (.v (.int .i64 0))]), (3, .d (.v (.int .i64 (0 : Int)))), (4, .d (.v (.int .i64 (2 : Int))))] [] 4 (by kernel_rfl) (trivial) ?_
                obtain hs := Option.some.inj h; subst hs
                have h := callE_esc hk2
                obtain hs := Option.some.inj h; subst hs
                have h := callE_esc hk1
                obtain hs := Option.some.inj h; subst hs
                refine T_ret fun a w hm => then_ret (inBlock_ret (inBlock_ret (then_ret (then_ret (inBlock_ret (then_ret (then_ret (T_returnC (fr' := [(2, .box [.d (.v (.int .i64 0)), .d (.v (.int .i64 0)), .d (.str []), .d (.v (.int .i64 0)), .d (.v (.int .i64 0))]), (3, .d (.v (.int .i64 (0 : Int)))), (4, .d (.v (.int .i64 (2 : Int))))]) (ts := [76, 3, 4]) (N' := 77) (fr2 := [(76, .agg (cS_Token (S_Token.mk 0 0 [] 0 0)))] ++ [(2, .box [.d (.v (.int .i64 0)), .d (.v (.int .i64 0)), .d (.str []), .d (.v (.int .i64 0)), .d (.v (.int .i64 0))]), (3, .d (.v (.int .i64 (0 : Int)))), (4, .d (.v (.int .i64 (2 : Int))))]) [.keep [2, 3, 4]] (by kernel_rfl) (by kernel_rfl) (by kernel_rfl) (by kernel_rfl) (by show _ = _; kernel_rfl) (by exact trivial) a w hm))))))))
              · have h := cond_ff hc h
                refine T_skip fun a w hm => then_norm (((?_ : T Tryd.prog e 76 _ _ _) a w hm))
                refine T_region [(1, { cs := [.str v5] })] [2, 3, 4] [] [(2, .box [.d (.v (.int .i64 (3 : Int))), .d (.v (.int .i64 0)), .d (.str v5), .d (.v (.int .i64 0)), .d (.v (.int .i64 0))]), (3, .d (.v (.int .i64 (IntKind.i64.wrap (v4 + (1 : Int)))))), (4, .d (.v (.int .i64 (0 : Int))))] [(1, (v5.map cU) = byteCells v5)] 6 (by kernel_rfl) (rfl) ?_
                obtain hs := Option.some.inj h; subst hs
                have h := callE_esc hk2
                obtain hs := Option.some.inj h; subst hs
                have h := callE_esc hk1
                obtain hs := Option.some.inj h; subst hs
                refine T_ret fun a w hm => inBlock_ret (inBlock_ret (then_ret (then_ret (inBlock_ret (then_ret (then_ret (T_returnC (fr' := [(2, .box [.d (.v (.int .i64 (3 : Int))), .d (.v (.int .i64 0)), .d (.str v5), .d (.v (.int .i64 0)), .d (.v (.int .i64 0))]), (3, .d (.v (.int .i64 (IntKind.i64.wrap (v4 + (1 : Int)))))), (4, .d (.v (.int .i64 (0 : Int))))]) (ts := [76, 3, 4]) (N' := 77) (fr2 := [(76, .agg (cS_Token (S_Token.mk (3 : Int) 0 v5 0 0)))] ++ [(2, .box [.d (.v (.int .i64 (3 : Int))), .d (.v (.int .i64 0)), .d (.str v5), .d (.v (.int .i64 0)), .d (.v (.int .i64 0))]), (3, .d (.v (.int .i64 (IntKind.i64.wrap (v4 + (1 : Int)))))), (4, .d (.v (.int .i64 (0 : Int))))]) [.keep [2, 3, 4]] (by kernel_rfl) (by kernel_rfl) (by kernel_rfl) (by kernel_rfl) (by show _ = _; kernel_rfl) (by exact trivial) a w hm)))))))
          · have h := cond_ff hc h
            obtain ⟨hp7, h⟩ := chk_ok h
            obtain ⟨y2, hy2, h⟩ := call_ok h
            refine T_region [(3, { res := .d (.v (.int .i64 y2)) })] [0, 2, 5, 6, 10, 11, 67] [] [(0, .d (.str a0)), (2, .box [.d (.v (.int .i64 0)), .d (.v (.int .i64 0)), .d (.str []), .d (.v (.int .i64 0)), .d (.v (.int .i64 0))]), (5, .own 3 1 (v1.map (cI .i64))), (6, .d (.v (.int .i64 v4))), (10, .d (.v (.int .i64 (a0.length : Int)))), (11, .d (.v (.int .i64 v4))), (67, .d (.v (.bool (decide (y2 < (0 : Int))))))] [(2, 0 ≤ v4 ∧ v4 < a0.length), (0, ACall Tryd.prog 107 [.d (.v (.int .u8 ((a0.getD v4.toNat 0).toNat : Int)))] [] (.d (.v (.int .i64 y2))) [])] 2 (by kernel_rfl) (⟨hp7, ref3_hex_ok hy2⟩) ?_
            refine T_cond (decide (y2 < (0 : Int))) (by kernel_rfl) (fun hc => ?_) (fun hc => ?_)
            · have h := cond_tt hc h
              refine T_region [] [2, 3, 4] [] [(2, .box [.d (.v (.int .i64 0)), .d (.v (.int .i64 0)), .d (.str []), .d (.v (.int .i64 0)), .d (.v (.int .i64 0))]), (3, .d (.v (.int .i64 (0 : Int)))), (4, .d (.v (.int .i64 (5 : Int))))] [] 4 (by kernel_rfl) (trivial) ?_
              obtain hs := Option.some.inj h; subst hs
              have h := callE_esc hk2
              obtain hs := Option.some.inj h; subst hs
              have h := callE_esc hk1
              obtain hs := Option.some.inj h; subst hs
              refine T_ret fun a w hm => inBlock_ret (inBlock_ret (then_ret (then_ret (inBlock_ret (then_ret (then_ret (T_returnC (fr' := [(2, .box [.d (.v (.int .i64 0)), .d (.v (.int .i64 0)), .d (.str []), .d (.v (.int .i64 0)), .d (.v (.int .i64 0))]), (3, .d (.v (.int .i64 (0 : Int)))), (4, .d (.v (.int .i64 (5 : Int))))]) (ts := [76, 3, 4]) (N' := 77) (fr2 := [(76, .agg (cS_Token (S_Token.mk 0 0 [] 0 0)))] ++ [(2, .box [.d (.v (.int .i64 0)), .d (.v (.int .i64 0)), .d (.str []), .d (.v (.int .i64 0)), .d (.v (.int .i64 0))]), (3, .d (.v (.int .i64 (0 : Int)))), (4, .d (.v (.int .i64 (5 : Int))))]) [.keep [2, 3, 4]] (by kernel_rfl) (by kernel_rfl) (by kernel_rfl) (by kernel_rfl) (by show _ = _; kernel_rfl) (by exact trivial) a w hm)))))))
            · have h := cond_ff hc h
              obtain ⟨hp8, h⟩ := chk_ok h
              obtain ⟨y3, hy3, h⟩ := call_ok h
              obtain ⟨hp9, h⟩ := chk_ok h
              obtain hs := Option.some.inj h; subst hs
              refine T_region_end [(4, { res := .d (.v (.int .i64 y3)) }), (5, { es := some (([y3]).map (cI .i64)) }), (6, { es := some ((v1 ++ ([y3])).map (cI .i64)) })] [0, 2, 5, 10, 11] [] [(0, .d (.str a0)), (2, .box [.d (.v (.int .i64 0)), .d (.v (.int .i64 0)), .d (.str []), .d (.v (.int .i64 0)), .d (.v (.int .i64 0))]), (5, .own 3 1 ((v1 ++ ([y3])).map (cI .i64))), (10, .d (.v (.int .i64 (a0.length : Int)))), (11, .d (.v (.int .i64 v4)))] [(3, 0 ≤ v4 ∧ v4 < a0.length), (0, ACall Tryd.prog 107 [.d (.v (.int .u8 ((a0.getD v4.toNat 0).toNat : Int)))] [] (.d (.v (.int .i64 y3))) []), (0, (([y3]).map (cI .i64)) = (([y3]).map (cI .i64))), (0, (v1.map (cI .i64)).length + (([y3]).map (cI .i64)).length ≤ 4294967296 ∧ (v1.map (cI .i64)) ++ (([y3]).map (cI .i64)) = ((v1 ++ ([y3])).map (cI .i64)))] 1 (by kernel_rfl) (⟨hp8, ref3_hex_ok hy3, rfl, app_ok (cI .i64) hp9⟩) fun a w hm => inBlock_norm (inBlock_norm (then_norm (⟨_, rfl, hm.co (cs := [.keep [0, 2, 5, 10, 11]]) (by show _ = _; kernel_rfl)⟩)))
      · skip
        refine T_region_end [] [0, 2, 5, 10, 11] [] [(0, .d (.str a0)), (2, .box [.d (.v (.int .i64 0)), .d (.v (.int .i64 0)), .d (.str []), .d (.v (.int .i64 0)), .d (.v (.int .i64 0))]), (5, .own 3 1 (v6.map (cI .i64))), (10, .d (.v (.int .i64 (a0.length : Int)))), (11, .d (.v (.int .i64 (IntKind.i64.wrap (v4 + (1 : Int))))))] [] 2 (by kernel_rfl) (trivial) fun a w hm => then_norm (⟨(v6, IntKind.i64.wrap (v4 + (1 : Int))), h, hm.co (cs := [.keep [0, 2, 5, 10, 11]]) (by show _ = _; kernel_rfl)⟩)
    · have h := cond_ff hc h
      obtain hs := Option.some.inj h; subst hs
      refine T_exit fun a w hm => then_exit (then_exit (inBlock_exit (then_norm (⟨_, rfl, hm.co (cs := [.keep [2]]) (by show _ = _; kernel_rfl)⟩))))
  · skip
    refine fun a w hm => then_norm (((?_ : T Tryd.prog e 76 _ _ _) a w hm))
    refine T_region [] [2, 3, 4] [] [(2, .box [.d (.v (.int .i64 0)), .d (.v (.int .i64 0)), .d (.str []), .d (.v (.int .i64 0)), .d (.v (.int .i64 0))]), (3, .d (.v (.int .i64 (0 : Int)))), (4, .d (.v (.int .i64 (12 : Int))))] [] 4 (by kernel_rfl) (trivial) ?_
    obtain hs := Option.some.inj h; subst hs
    refine T_ret fun a w hm => T_returnC (fr' := [(2, .box [.d (.v (.int .i64 0)), .d (.v (.int .i64 0)), .d (.str []), .d (.v (.int .i64 0)), .d (.v (.int .i64 0))]), (3, .d (.v (.int .i64 (0 : Int)))), (4, .d (.v (.int .i64 (12 : Int))))]) (ts := [76, 3, 4]) (N' := 77) (fr2 := [(76, .agg (cS_Token (S_Token.mk 0 0 [] 0 0)))] ++ [(2, .box [.d (.v (.int .i64 0)), .d (.v (.int .i64 0)), .d (.str []), .d (.v (.int .i64 0)), .d (.v (.int .i64 0))]), (3, .d (.v (.int .i64 (0 : Int)))), (4, .d (.v (.int .i64 (12 : Int))))]) [.keep [2, 3, 4]] (by kernel_rfl) (by kernel_rfl) (by kernel_rfl) (by kernel_rfl) (by show _ = _; kernel_rfl) (by exact trivial) a w hm

theorem ref3_Lex_ok {F : Nat} {a0 : List UInt8} {a1 : Int} {r : S_Token × Int × Int} (h : ref3_Lex F a0 a1 = some r) : ACall Tryd.prog 44 [.d (.str a0), .d (.v (.int .i64 a1))] [] (.tup [.agg (cS_Token r.1), .d (.v (.int .i64 r.2.1)), .d (.v (.int .i64 r.2.2))]) [] := by
  rw [ref3_Lex] at h
  refine ACall.intro (N := 208) Tryd.func44 rfl rfl rfl rfl rfl fun e => ?_
  refine T_region [] [0, 1, 4] [] [(0, .d (.str a0)), (1, .d (.v (.int .i64 a1))), (4, .box [.d (.v (.int .i64 0)), .d (.v (.int .i64 0)), .d (.str []), .d (.v (.int .i64 0)), .d (.v (.int .i64 0))])] [] 3 (by kernel_rfl) (trivial) ?_
  refine T_joinc h (fun (p : Int) => [(0, .d (.str a0)), (1, .d (.v (.int .i64 p))), (4, .box [.d (.v (.int .i64 0)), .d (.v (.int .i64 0)), .d (.str []), .d (.v (.int .i64 0)), .d (.v (.int .i64 0))])]) (fun s h => ?_) (fun v5 h => ?_)
  · refine T_co [.keep [0, 1, 4]] ((fun (p : Int) => [(0, .d (.str a0)), (1, .d (.v (.int .i64 p))), (4, .box [.d (.v (.int .i64 0)), .d (.v (.int .i64 0)), .d (.str []), .d (.v (.int .i64 0)), .d (.v (.int .i64 0))])]) a1) (by show _ = _; kernel_rfl) ?_
    refine T_block ?_
    refine T_loopF (ι := Int) (fun (p : Int) => [(0, .d (.str a0)), (1, .d (.v (.int .i64 p))), (4, .box [.d (.v (.int .i64 0)), .d (.v (.int .i64 0)), .d (.str []), .d (.v (.int .i64 0)), .d (.v (.int .i64 0))])]) (fun n p => ref3_Lex_L0 F a0 n p = some s) (fun i hh => by simp [ref3_Lex_L0] at hh) (fun n v2 h => ?_) F a1 h
    have h : ref3_Lex_L0 F a0 (n + 1) v2 = some s := h
    rw [ref3_Lex_L0] at h
    refine T_seqk ?_
    obtain ⟨hp1, h⟩ := chk_ok h
    obtain ⟨y1, hy1, h⟩ := call_ok h
    obtain ⟨hp2, h⟩ := chk_ok h
    obtain ⟨z2, hz1, h⟩ := lett_ok h
    refine T_region [(8, { res := .d (.v (.bool y1)) }), (15, { rw := some (.d (.v (.bool z2))) })] [0, 1, 4, 28] [] [(0, .d (.str a0)), (1, .d (.v (.int .i64 v2))), (4, .box [.d (.v (.int .i64 0)), .d (.v (.int .i64 0)), .d (.str []), .d (.v (.int .i64 0)), .d (.v (.int .i64 0))]), (28, .d (.v (.bool z2)))] [(5, ((((decide (v2 < (a0.length : Int))) == true) && true) = true → True)), (0, ((((decide (v2 < (a0.length : Int))) == true) && true) = true → True)), (0, ((((decide (v2 < (a0.length : Int))) == true) && true) = true → 0 ≤ v2 ∧ v2 < a0.length)), (0, ((((decide (v2 < (a0.length : Int))) == true) && true) = true → ACall Tryd.prog 76 [.d (.v (.int .u8 ((a0.getD v2.toNat 0).toNat : Int)))] [] (.d (.v (.bool y1))) [])), (0, ((((decide (v2 < (a0.length : Int))) == true) && true) = true → True)), (0, (((y1 == false) && (((decide (v2 < (a0.length : Int))) == true) && true)) = true → True)), (0, (((y1 == false) && (((decide (v2 < (a0.length : Int))) == true) && true)) = true → True)), (0, (((y1 == false) && (((decide (v2 < (a0.length : Int))) == true) && true)) = true → 0 ≤ v2 ∧ v2 < a0.length)), (0, (((y1 == false) && (((decide (v2 < (a0.length : Int))) == true) && true)) = true → True)), (0, ((((decide (v2 < (a0.length : Int))) == true) && true) = true → True)), (0, (True) ∧ AV.d (.v (.bool (bif (decide (v2 < (a0.length : Int))) then (bif y1 then true else (((a0.getD v2.toNat 0).toNat : Int) == (37 : Int))) else false))) = .d (.v (.bool z2)))] 0 (by kernel_rfl) (⟨(fun hg => trivial), (fun hg => trivial), (fun hg => (hp1 hg)), (fun hg => ref3_blank_ok (gcall_ok hg hy1)), (fun hg => trivial), (fun hg => trivial), (fun hg => trivial), (fun hg => (hp2 hg)), (fun hg => trivial), (fun hg => trivial), ⟨trivial, (by subst hz1; rfl)⟩⟩) ?_
    refine T_cond z2 (by kernel_rfl) (fun hc => ?_) (fun hc => ?_)
    · have h := cond_tt hc h
      refine T_skip fun a w hm => then_norm (((?_ : T Tryd.prog e 208 _ _ _) a w hm))
      refine T_block ?_
      obtain ⟨hp3, h⟩ := chk_ok h
      refine T_region [] [0, 1, 4, 32] [] [(0, .d (.str a0)), (1, .d (.v (.int .i64 v2))), (4, .box [.d (.v (.int .i64 0)), .d (.v (.int .i64 0)), .d (.str []), .d (.v (.int .i64 0)), .d (.v (.int .i64 0))]), (32, .d (.v (.bool (((a0.getD v2.toNat 0).toNat : Int) == (37 : Int)))))] [(2, 0 ≤ v2 ∧ v2 < a0.length)] 1 (by kernel_rfl) (hp3) ?_
      refine T_cond (((a0.getD v2.toNat 0).toNat : Int) == (37 : Int)) (by kernel_rfl) (fun hc => ?_) (fun hc => ?_)
      · have h := cond_tt hc h
        refine T_joinct h (fun (p : Int) => [(0, .d (.str a0)), (1, .d (.v (.int .i64 p))), (4, .box [.d (.v (.int .i64 0)), .d (.v (.int .i64 0)), .d (.str []), .d (.v (.int .i64 0)), .d (.v (.int .i64 0))])]) (fun s h => ?_) (fun v3 h => ?_)
        · refine T_co [.keep [0, 1, 4]] ((fun (p : Int) => [(0, .d (.str a0)), (1, .d (.v (.int .i64 p))), (4, .box [.d (.v (.int .i64 0)), .d (.v (.int .i64 0)), .d (.str []), .d (.v (.int .i64 0)), .d (.v (.int .i64 0))])]) v2) (by show _ = _; kernel_rfl) ?_
          refine T_block ?_
          refine T_loopF (ι := Int) (fun (p : Int) => [(0, .d (.str a0)), (1, .d (.v (.int .i64 p))), (4, .box [.d (.v (.int .i64 0)), .d (.v (.int .i64 0)), .d (.str []), .d (.v (.int .i64 0)), .d (.v (.int .i64 0))])]) (fun n p => ref3_Lex_L2 F a0 n p = some s) (fun i hh => by simp [ref3_Lex_L2] at hh) (fun n v1 h => ?_) F v2 h
          have h : ref3_Lex_L2 F a0 (n + 1) v1 = some s := h
          rw [ref3_Lex_L2] at h
          refine T_seqk ?_
          obtain ⟨hp4, h⟩ := chk_ok h
          obtain ⟨z1, hz2, h⟩ := lett_ok h
          refine T_region [(9, { rw := some (.d (.v (.bool z1))) })] [0, 1, 4, 42] [] [(0, .d (.str a0)), (1, .d (.v (.int .i64 v1))), (4, .box [.d (.v (.int .i64 0)), .d (.v (.int .i64 0)), .d (.str []), .d (.v (.int .i64 0)), .d (.v (.int .i64 0))]), (42, .d (.v (.bool z1)))] [(5, ((((decide (v1 < (a0.length : Int))) == true) && true) = true → True)), (0, ((((decide (v1 < (a0.length : Int))) == true) && true) = true → True)), (0, ((((decide (v1 < (a0.length : Int))) == true) && true) = true → 0 ≤ v1 ∧ v1 < a0.length)), (0, ((((decide (v1 < (a0.length : Int))) == true) && true) = true → True)), (0, (True) ∧ AV.d (.v (.bool (bif (decide (v1 < (a0.length : Int))) then (((a0.getD v1.toNat 0).toNat : Int) != (10 : Int)) else false))) = .d (.v (.bool z1)))] 0 (by kernel_rfl) (⟨(fun hg => trivial), (fun hg => trivial), (fun hg => (hp4 hg)), (fun hg => trivial), ⟨trivial, (by subst hz2; rfl)⟩⟩) ?_
          refine T_cond z1 (by kernel_rfl) (fun hc => ?_) (fun hc => ?_)
          · have h := cond_tt hc h
            refine T_skip fun a w hm => then_norm (((?_ : T Tryd.prog e 208 _ _ _) a w hm))
            refine T_block ?_
            refine T_region_end [] [0, 1, 4] [] [(0, .d (.str a0)), (1, .d (.v (.int .i64 (IntKind.i64.wrap (v1 + (1 : Int)))))), (4, .box [.d (.v (.int .i64 0)), .d (.v (.int .i64 0)), .d (.str []), .d (.v (.int .i64 0)), .d (.v (.int .i64 0))])] [] 3 (by kernel_rfl) (trivial) fun a w hm => inBlock_norm (then_norm (⟨IntKind.i64.wrap (v1 + (1 : Int)), h, hm.co (cs := [.keep [0, 1, 4]]) (by show _ = _; kernel_rfl)⟩))
          · have h := cond_ff hc h
            obtain hs := Option.some.inj h; subst hs
            refine T_exit fun a w hm => then_exit (then_exit (inBlock_exit (then_norm (hm.co (cs := [.keep [0, 1, 4]]) (by show _ = _; kernel_rfl)))))
        · skip
          refine fun a w hm => inBlock_norm (then_norm (⟨v3, h, hm.co (cs := [.keep [0, 1, 4]]) (by show _ = _; kernel_rfl)⟩))
      · have h := cond_ff hc h
        refine T_region_end [] [0, 1, 4] [] [(0, .d (.str a0)), (1, .d (.v (.int .i64 (IntKind.i64.wrap (v2 + (1 : Int)))))), (4, .box [.d (.v (.int .i64 0)), .d (.v (.int .i64 0)), .d (.str []), .d (.v (.int .i64 0)), .d (.v (.int .i64 0))])] [] 3 (by kernel_rfl) (trivial) fun a w hm => inBlock_norm (then_norm (⟨IntKind.i64.wrap (v2 + (1 : Int)), h, hm.co (cs := [.keep [0, 1, 4]]) (by show _ = _; kernel_rfl)⟩))
    · have h := cond_ff hc h
      obtain hs := Option.some.inj h; subst hs
      refine T_exit fun a w hm => then_exit (then_exit (inBlock_exit (then_norm (hm.co (cs := [.keep [0, 1, 4]]) (by show _ = _; kernel_rfl)))))
  · skip
    refine T_seqk ?_
    refine T_region [] [0, 1, 4, 50] [] [(0, .d (.str a0)), (1, .d (.v (.int .i64 v5))), (4, .box [.d (.v (.int .i64 0)), .d (.v (.int .i64 0)), .d (.str []), .d (.v (.int .i64 0)), .d (.v (.int .i64 0))]), (50, .d (.v (.bool (v5 == (a0.length : Int)))))] [] 4 (by kernel_rfl) (trivial) ?_
    refine T_cond (v5 == (a0.length : Int)) (by kernel_rfl) (fun hc => ?_) (fun hc => ?_)
    · have h := cond_tt hc h
      refine T_region [] [4, 5, 6] [] [(4, .box [.d (.v (.int .i64 0)), .d (.v (.int .i64 0)), .d (.str []), .d (.v (.int .i64 v5)), .d (.v (.int .i64 v5))]), (5, .d (.v (.int .i64 v5))), (6, .d (.v (.int .i64 (0 : Int))))] [] 7 (by kernel_rfl) (trivial) ?_
      obtain hs := Option.some.inj h; subst hs
      refine T_ret fun a w hm => then_ret (T_returnC (fr' := [(4, .box [.d (.v (.int .i64 0)), .d (.v (.int .i64 0)), .d (.str []), .d (.v (.int .i64 v5)), .d (.v (.int .i64 v5))]), (5, .d (.v (.int .i64 v5))), (6, .d (.v (.int .i64 (0 : Int))))]) (ts := [208, 5, 6]) (N' := 209) (fr2 := [(208, .agg (cS_Token (S_Token.mk 0 0 [] v5 v5)))] ++ [(4, .box [.d (.v (.int .i64 0)), .d (.v (.int .i64 0)), .d (.str []), .d (.v (.int .i64 v5)), .d (.v (.int .i64 v5))]), (5, .d (.v (.int .i64 v5))), (6, .d (.v (.int .i64 (0 : Int))))]) [.keep [4, 5, 6]] (by kernel_rfl) (by kernel_rfl) (by kernel_rfl) (by kernel_rfl) (by show _ = _; kernel_rfl) (by exact trivial) a w hm)
    · have h := cond_ff hc h
      refine T_skip fun a w hm => then_norm (((?_ : T Tryd.prog e 208 _ _ _) a w hm))
      obtain ⟨hp5, h⟩ := chk_ok h
      refine T_region [] [0, 1, 4, 7, 8] [] [(0, .d (.str a0)), (1, .d (.v (.int .i64 v5))), (4, .box [.d (.v (.int .i64 0)), .d (.v (.int .i64 0)), .d (.str []), .d (.v (.int .i64 0)), .d (.v (.int .i64 0))]), (7, .d (.v (.int .u8 ((a0.getD v5.toNat 0).toNat : Int)))), (8, .d (.v (.int .i64 (IntKind.i64.wrap (v5 + (1 : Int))))))] [(2, 0 ≤ v5 ∧ v5 < a0.length)] 4 (by kernel_rfl) (hp5) ?_
      refine T_joinc h (fun (p : Int) => [(0, .d (.str a0)), (1, .d (.v (.int .i64 v5))), (4, .box [.d (.v (.int .i64 0)), .d (.v (.int .i64 0)), .d (.str []), .d (.v (.int .i64 0)), .d (.v (.int .i64 0))]), (7, .d (.v (.int .u8 ((a0.getD v5.toNat 0).toNat : Int)))), (8, .d (.v (.int .i64 p)))]) (fun s h => ?_) (fun v6 h => ?_)
      · refine T_co [.keep [0, 1, 4, 7, 8]] ((fun (p : Int) => [(0, .d (.str a0)), (1, .d (.v (.int .i64 v5))), (4, .box [.d (.v (.int .i64 0)), .d (.v (.int .i64 0)), .d (.str []), .d (.v (.int .i64 0)), .d (.v (.int .i64 0))]), (7, .d (.v (.int .u8 ((a0.getD v5.toNat 0).toNat : Int)))), (8, .d (.v (.int .i64 p)))]) (IntKind.i64.wrap (v5 + (1 : Int)))) (by show _ = _; kernel_rfl) ?_
        refine T_block ?_
        refine T_loopF (ι := Int) (fun (p : Int) => [(0, .d (.str a0)), (1, .d (.v (.int .i64 v5))), (4, .box [.d (.v (.int .i64 0)), .d (.v (.int .i64 0)), .d (.str []), .d (.v (.int .i64 0)), .d (.v (.int .i64 0))]), (7, .d (.v (.int .u8 ((a0.getD v5.toNat 0).toNat : Int)))), (8, .d (.v (.int .i64 p)))]) (fun n p => ref3_Lex_L4 F a0 n p = some s) (fun i hh => by simp [ref3_Lex_L4] at hh) (fun n v4 h => ?_) F (IntKind.i64.wrap (v5 + (1 : Int))) h
        have h : ref3_Lex_L4 F a0 (n + 1) v4 = some s := h
        rw [ref3_Lex_L4] at h
        refine T_seqk ?_
        obtain ⟨hp6, h⟩ := chk_ok h
        obtain ⟨y2, hy2, h⟩ := call_ok h
        refine T_region [(8, { res := .d (.v (.bool y2)) })] [0, 1, 4, 7, 8, 69] [] [(0, .d (.str a0)), (1, .d (.v (.int .i64 v5))), (4, .box [.d (.v (.int .i64 0)), .d (.v (.int .i64 0)), .d (.str []), .d (.v (.int .i64 0)), .d (.v (.int .i64 0))]), (7, .d (.v (.int .u8 ((a0.getD v5.toNat 0).toNat : Int)))), (8, .d (.v (.int .i64 v4))), (69, .d (.v (.bool (bif (decide (v4 < (a0.length : Int))) then y2 else false))))] [(5, ((((decide (v4 < (a0.length : Int))) == true) && true) = true → True)), (0, ((((decide (v4 < (a0.length : Int))) == true) && true) = true → True)), (0, ((((decide (v4 < (a0.length : Int))) == true) && true) = true → 0 ≤ v4 ∧ v4 < a0.length)), (0, ((((decide (v4 < (a0.length : Int))) == true) && true) = true → ACall Tryd.prog 77 [.d (.v (.int .u8 ((a0.getD v4.toNat 0).toNat : Int)))] [] (.d (.v (.bool y2))) []))] 1 (by kernel_rfl) (⟨(fun hg => trivial), (fun hg => trivial), (fun hg => (hp6 hg)), (fun hg => ref3_plain_ok (gcall_ok hg hy2))⟩) ?_
        refine T_cond (bif (decide (v4 < (a0.length : Int))) then y2 else false) (by kernel_rfl) (fun hc => ?_) (fun hc => ?_)
        · have h := cond_tt hc h
          refine T_skip fun a w hm => then_norm (((?_ : T Tryd.prog e 208 _ _ _) a w hm))
          refine T_block ?_
          refine T_region_end [] [0, 1, 4, 7, 8] [] [(0, .d (.str a0)), (1, .d (.v (.int .i64 v5))), (4, .box [.d (.v (.int .i64 0)), .d (.v (.int .i64 0)), .d (.str []), .d (.v (.int .i64 0)), .d (.v (.int .i64 0))]), (7, .d (.v (.int .u8 ((a0.getD v5.toNat 0).toNat : Int)))), (8, .d (.v (.int .i64 (IntKind.i64.wrap (v4 + (1 : Int))))))] [] 3 (by kernel_rfl) (trivial) fun a w hm => inBlock_norm (then_norm (⟨IntKind.i64.wrap (v4 + (1 : Int)), h, hm.co (cs := [.keep [0, 1, 4, 7, 8]]) (by show _ = _; kernel_rfl)⟩))
        · have h := cond_ff hc h
          obtain hs := Option.some.inj h; subst hs
          refine T_exit fun a w hm => then_exit (then_exit (inBlock_exit (then_norm (hm.co (cs := [.keep [0, 1, 4, 7, 8]]) (by show _ = _; kernel_rfl)))))
      · skip
        obtain ⟨hp7, h⟩ := chk_ok h
        obtain ⟨z3, hz3, h⟩ := lett_ok h
        refine T_region [(11, { rw := some (.d (.v (.bool z3))) })] [0, 1, 4, 7, 8, 9] [] [(0, .d (.str a0)), (1, .d (.v (.int .i64 v5))), (4, .box [.d (.v (.int .i64 0)), .d (.v (.int .i64 0)), .d (.str []), .d (.v (.int .i64 0)), .d (.v (.int .i64 0))]), (7, .d (.v (.int .u8 ((a0.getD v5.toNat 0).toNat : Int)))), (8, .d (.v (.int .i64 v6))), (9, .d (.v (.bool (bif (decide ((IntKind.i64.wrap (v5 + (1 : Int))) < (a0.length : Int))) then z3 else false))))] [(6, ((((decide ((IntKind.i64.wrap (v5 + (1 : Int))) < (a0.length : Int))) == true) && true) = true → True)), (0, ((((decide ((IntKind.i64.wrap (v5 + (1 : Int))) < (a0.length : Int))) == true) && true) = true → True)), (0, ((((decide ((IntKind.i64.wrap (v5 + (1 : Int))) < (a0.length : Int))) == true) && true) = true → True)), (0, ((((decide ((IntKind.i64.wrap (v5 + (1 : Int))) < (a0.length : Int))) == true) && true) = true → 0 ≤ (IntKind.i64.wrap (v5 + (1 : Int))) ∧ (IntKind.i64.wrap (v5 + (1 : Int))) < a0.length)), (0, ((((decide ((IntKind.i64.wrap (v5 + (1 : Int))) < (a0.length : Int))) == true) && true) = true → True)), (0, ((((decide ((IntKind.i64.wrap (v5 + (1 : Int))) < (a0.length : Int))) == true) && true) = true → (True) ∧ AV.d (.v (.bool (((a0.getD (IntKind.i64.wrap (v5 + (1 : Int))).toNat 0).toNat : Int) == ((a0.getD v5.toNat 0).toNat : Int)))) = .d (.v (.bool z3))))] 2 (by kernel_rfl) (⟨(fun hg => trivial), (fun hg => trivial), (fun hg => trivial), (fun hg => (hp7 hg)), (fun hg => trivial), (fun hg => ⟨trivial, (by subst hz3; rfl)⟩)⟩) ?_
        refine T_region [] [0, 1, 4, 7, 8, 9, 10, 11, 12] [] [(0, .d (.str a0)), (1, .d (.v (.int .i64 v5))), (4, .box [.d (.v (.int .i64 0)), .d (.v (.int .i64 0)), .d (.str []), .d (.v (.int .i64 0)), .d (.v (.int .i64 0))]), (7, .d (.v (.int .u8 ((a0.getD v5.toNat 0).toNat : Int)))), (8, .d (.v (.int .i64 v6))), (9, .d (.v (.bool (bif (decide ((IntKind.i64.wrap (v5 + (1 : Int))) < (a0.length : Int))) then z3 else false)))), (10, .box [.d (.v (.int .i64 0)), .d (.v (.int .i64 0)), .d (.str []), .d (.v (.int .i64 0)), .d (.v (.int .i64 0))]), (11, .d (.v (.int .i64 (0 : Int)))), (12, .d (.v (.int .i64 (IntKind.i64.wrap (v6 - v5)))))] [] 8 (by kernel_rfl) (trivial) ?_
        refine T_joinc h (fun (p : Int × Int × (List UInt8) × Int × Int × Int × Int) => [(1, .d (.v (.int .i64 v5))), (4, .box [.d (.v (.int .i64 0)), .d (.v (.int .i64 0)), .d (.str []), .d (.v (.int .i64 0)), .d (.v (.int .i64 0))]), (10, .box [.d (.v (.int .i64 p.1)), .d (.v (.int .i64 p.2.1)), .d (.str p.2.2.1), .d (.v (.int .i64 p.2.2.2.1)), .d (.v (.int .i64 p.2.2.2.2.1))]), (11, .d (.v (.int .i64 p.2.2.2.2.2.1))), (12, .d (.v (.int .i64 p.2.2.2.2.2.2)))]) (fun s h => ?_) (fun s h => ?_)
        · refine T_block ?_
          obtain ⟨z4, hz4, h⟩ := lett_ok h
          obtain ⟨y3, hy3, h⟩ := call_ok h
          refine T_region [(5, { rw := some (.d (.v (.bool z4))) }), (8, { res := .d (.v (.bool y3)) })] [0, 1, 4, 7, 8, 9, 10, 11, 12, 89] [] [(0, .d (.str a0)), (1, .d (.v (.int .i64 v5))), (4, .box [.d (.v (.int .i64 0)), .d (.v (.int .i64 0)), .d (.str []), .d (.v (.int .i64 0)), .d (.v (.int .i64 0))]), (7, .d (.v (.int .u8 ((a0.getD v5.toNat 0).toNat : Int)))), (8, .d (.v (.int .i64 v6))), (9, .d (.v (.bool (bif (decide ((IntKind.i64.wrap (v5 + (1 : Int))) < (a0.length : Int))) then z3 else false)))), (10, .box [.d (.v (.int .i64 0)), .d (.v (.int .i64 0)), .d (.str []), .d (.v (.int .i64 0)), .d (.v (.int .i64 0))]), (11, .d (.v (.int .i64 (0 : Int)))), (12, .d (.v (.int .i64 (IntKind.i64.wrap (v6 - v5))))), (89, .d (.v (.bool (bif z4 then true else y3))))] [(3, ((((((a0.getD v5.toNat 0).toNat : Int) == (43 : Int)) == false) && true) = true → True)), (0, ((((((a0.getD v5.toNat 0).toNat : Int) == (43 : Int)) == false) && true) = true → True)), (0, (True) ∧ AV.d (.v (.bool (bif (((a0.getD v5.toNat 0).toNat : Int) == (43 : Int)) then true else (((a0.getD v5.toNat 0).toNat : Int) == (45 : Int))))) = .d (.v (.bool z4))), (1, (((z4 == false) && true) = true → True)), (0, (((z4 == false) && true) = true → ACall Tryd.prog 52 [.d (.v (.int .u8 ((a0.getD v5.toNat 0).toNat : Int)))] [] (.d (.v (.bool y3))) []))] 2 (by kernel_rfl) (⟨(fun hg => trivial), (fun hg => trivial), ⟨trivial, (by subst hz4; rfl)⟩, (fun hg => trivial), (fun hg => ref3_digit_ok (gcall_ok hg hy3))⟩) ?_
          refine T_cond (bif z4 then true else y3) (by kernel_rfl) (fun hc => ?_) (fun hc => ?_)
          · have h := cond_tt hc h
            obtain ⟨hp8, h⟩ := chk_ok h
            obtain ⟨y4, hy4, h⟩ := call_ok h
            obtain hs := Option.some.inj h; subst hs
            refine T_region_end [(4, { res := .tup [.agg (cS_Token y4.1), .d (.v (.int .i64 y4.2))] })] [1, 4, 10, 11, 12] [] [(1, .d (.v (.int .i64 v5))), (4, .box [.d (.v (.int .i64 0)), .d (.v (.int .i64 0)), .d (.str []), .d (.v (.int .i64 0)), .d (.v (.int .i64 0))]), (10, .box [.d (.v (.int .i64 y4.1.f0)), .d (.v (.int .i64 y4.1.f1)), .d (.str y4.1.f2), .d (.v (.int .i64 y4.1.f3)), .d (.v (.int .i64 y4.1.f4))]), (11, .d (.v (.int .i64 y4.2))), (12, .d (.v (.int .i64 (IntKind.i64.wrap (v6 - v5)))))] [(3, 0 ≤ v5 ∧ v5 ≤ v6 ∧ v6 ≤ (a0.length : Int)), (0, ACall Tryd.prog 78 [.d (.str ((a0.drop v5.toNat).take (v6.toNat - v5.toNat)))] [] (.tup [.agg (cS_Token y4.1), .d (.v (.int .i64 y4.2))]) [])] 5 (by kernel_rfl) (⟨hp8, ref3_intToken_ok hy4⟩) fun a w hm => inBlock_norm (then_norm (hm.co (cs := [.keep [1, 4, 10, 11, 12]]) (by show _ = _; kernel_rfl)))
          · have h := cond_ff hc h
            obtain ⟨y5, hy5, h⟩ := call_ok h
            refine T_region [(1, { res := .d (.v (.bool y5)) })] [0, 1, 4, 7, 8, 9, 10, 11, 12, 108] [] [(0, .d (.str a0)), (1, .d (.v (.int .i64 v5))), (4, .box [.d (.v (.int .i64 0)), .d (.v (.int .i64 0)), .d (.str []), .d (.v (.int .i64 0)), .d (.v (.int .i64 0))]), (7, .d (.v (.int .u8 ((a0.getD v5.toNat 0).toNat : Int)))), (8, .d (.v (.int .i64 v6))), (9, .d (.v (.bool (bif (decide ((IntKind.i64.wrap (v5 + (1 : Int))) < (a0.length : Int))) then z3 else false)))), (10, .box [.d (.v (.int .i64 0)), .d (.v (.int .i64 0)), .d (.str []), .d (.v (.int .i64 0)), .d (.v (.int .i64 0))]), (11, .d (.v (.int .i64 (0 : Int)))), (12, .d (.v (.int .i64 (IntKind.i64.wrap (v6 - v5))))), (108, .d (.v (.bool y5)))] [(1, ACall Tryd.prog 77 [.d (.v (.int .u8 ((a0.getD v5.toNat 0).toNat : Int)))] [] (.d (.v (.bool y5))) [])] 1 (by kernel_rfl) (ref3_plain_ok hy5) ?_
            refine T_cond y5 (by kernel_rfl) (fun hc => ?_) (fun hc => ?_)
            · have h := cond_tt hc h
              obtain ⟨hp9, h⟩ := chk_ok h
              obtain ⟨hp10, h⟩ := chk_ok h
              obtain ⟨y6, hy6, h⟩ := call_ok h
              obtain hs := Option.some.inj h; subst hs
              refine T_drawX_end mixed 6 (.take 0 (.take 1 (.take 2 (.take 5 (.take 6 (.take 7 (.all (.alt 3 (.all (.alt 4 (.all (.alt 8 (.all (.alt 9 (.all (.alt 10 (.take 11 .done) .stop)) .stop)) .stop)) (.alt 8 (.all (.alt 4 (.all (.alt 9 (.all (.alt 10 (.take 11 .done) .stop)) .stop)) (.alt 9 (.all (.alt 4 (.all (.alt 10 (.take 11 .done) .stop)) .stop)) .stop))) .stop))) (.alt 8 (.all (.alt 3 (.all (.alt 4 (.all (.alt 9 (.all (.alt 10 (.take 11 .done) .stop)) .stop)) (.alt 9 (.all (.alt 4 (.all (.alt 10 (.take 11 .done) .stop)) .stop)) .stop))) (.alt 9 (.all (.alt 3 (.all (.alt 4 (.all (.alt 10 (.take 11 .done) .stop)) .stop)) .stop)) .stop))) .stop))))))))) ([0, 0, 0, 7, 8, 0, 0, 0, 224, 256, 543, 2047], [0, 0, 0, 7, 8, 0, 0, 0, 224, 256, 16, 512]) 2279 [(9, { res := .d (.v (.int .i64 y6)) })] [1, 4, 10, 11, 12] [] [(1, .d (.v (.int .i64 v5))), (4, .box [.d (.v (.int .i64 0)), .d (.v (.int .i64 0)), .d (.str []), .d (.v (.int .i64 0)), .d (.v (.int .i64 0))]), (10, .box [.d (.v (.int .i64 (5 : Int))), .d (.v (.int .i64 0)), .d (.str ((a0.drop v5.toNat).take (v6.toNat - v5.toNat))), .d (.v (.int .i64 0)), .d (.v (.int .i64 0))]), (11, .d (.v (.int .i64 y6))), (12, .d (.v (.int .i64 (IntKind.i64.wrap (v6 - v5)))))] ((fun (o3 : Prop) => fun (o8 : Prop) => fun (o9 : Prop) => [(6, o3), (1, o8), (0, o9), (2, o8), (1, o9), (2, o9), (3, o8), (0, o3), (1, o9), (2, o9), (3, o9), (0, o3)]) (0 ≤ v5 ∧ v5 ≤ v6 ∧ v6 ≤ (a0.length : Int)) (0 ≤ v5 ∧ v5 ≤ v6 ∧ v6 ≤ (a0.length : Int)) (ACall Tryd.prog 53 [.d (.str ((a0.drop v5.toNat).take (v6.toNat - v5.toNat)))] [] (.d (.v (.int .i64 y6))) [])) 3 (by kernel_rfl) (by kernel_rfl) (by kernel_rfl) (have p3 := hp9; have p8 := hp10; have p9 := ref3_wordError_ok hy6; ⟨p3, p8, p9, p8, p9, p9, p8, p3, p9, p9, p9, p3⟩) fun a w hm => inBlock_norm (then_norm (hm.co (cs := [.keep [1, 4, 10, 11, 12]]) (by show _ = _; kernel_rfl)))
            · have h := cond_ff hc h
              refine T_region [] [0, 1, 4, 7, 8, 9, 10, 11, 12, 121] [] [(0, .d (.str a0)), (1, .d (.v (.int .i64 v5))), (4, .box [.d (.v (.int .i64 0)), .d (.v (.int .i64 0)), .d (.str []), .d (.v (.int .i64 0)), .d (.v (.int .i64 0))]), (7, .d (.v (.int .u8 ((a0.getD v5.toNat 0).toNat : Int)))), (8, .d (.v (.int .i64 v6))), (9, .d (.v (.bool (bif (decide ((IntKind.i64.wrap (v5 + (1 : Int))) < (a0.length : Int))) then z3 else false)))), (10, .box [.d (.v (.int .i64 0)), .d (.v (.int .i64 0)), .d (.str []), .d (.v (.int .i64 0)), .d (.v (.int .i64 0))]), (11, .d (.v (.int .i64 (0 : Int)))), (12, .d (.v (.int .i64 (IntKind.i64.wrap (v6 - v5))))), (121, .d (.v (.bool (((a0.getD v5.toNat 0).toNat : Int) == (47 : Int)))))] [] 3 (by kernel_rfl) (trivial) ?_
              refine T_cond (((a0.getD v5.toNat 0).toNat : Int) == (47 : Int)) (by kernel_rfl) (fun hc => ?_) (fun hc => ?_)
              · have h := cond_tt hc h
                obtain ⟨hp11, h⟩ := chk_ok h
                obtain ⟨z5, hz5, h⟩ := lett_ok h
                obtain ⟨y7, hy7, h⟩ := call_ok h
                obtain hs := Option.some.inj h; subst hs
                refine T_region_end [(4, { rw := some (.d (.str z5)) }), (5, { res := .tup [.agg (cS_Token y7.1), .d (.v (.int .i64 y7.2))] })] [1, 4, 10, 11, 12] [] [(1, .d (.v (.int .i64 v5))), (4, .box [.d (.v (.int .i64 0)), .d (.v (.int .i64 0)), .d (.str []), .d (.v (.int .i64 0)), .d (.v (.int .i64 0))]), (10, .box [.d (.v (.int .i64 y7.1.f0)), .d (.v (.int .i64 y7.1.f1)), .d (.str y7.1.f2), .d (.v (.int .i64 y7.1.f3)), .d (.v (.int .i64 y7.1.f4))]), (11, .d (.v (.int .i64 y7.2))), (12, .d (.v (.int .i64 (IntKind.i64.wrap (v6 - v5)))))] [(4, (0 ≤ (IntKind.i64.wrap (v5 + (1 : Int))) ∧ (IntKind.i64.wrap (v5 + (1 : Int))) ≤ v6 ∧ v6 ≤ (a0.length : Int)) ∧ AV.d (.str ((a0.drop (IntKind.i64.wrap (v5 + (1 : Int))).toNat).take (v6.toNat - (IntKind.i64.wrap (v5 + (1 : Int))).toNat))) = .d (.str z5)), (0, ACall Tryd.prog 79 [.d (.str z5)] [] (.tup [.agg (cS_Token y7.1), .d (.v (.int .i64 y7.2))]) [])] 5 (by kernel_rfl) (⟨⟨hp11, (by subst hz5; rfl)⟩, ref3_nameToken_ok hy7⟩) fun a w hm => inBlock_norm (then_norm (hm.co (cs := [.keep [1, 4, 10, 11, 12]]) (by show _ = _; kernel_rfl)))
              · have h := cond_ff hc h
                refine T_region [] [0, 1, 4, 7, 8, 9, 10, 11, 12, 133] [] [(0, .d (.str a0)), (1, .d (.v (.int .i64 v5))), (4, .box [.d (.v (.int .i64 0)), .d (.v (.int .i64 0)), .d (.str []), .d (.v (.int .i64 0)), .d (.v (.int .i64 0))]), (7, .d (.v (.int .u8 ((a0.getD v5.toNat 0).toNat : Int)))), (8, .d (.v (.int .i64 v6))), (9, .d (.v (.bool (bif (decide ((IntKind.i64.wrap (v5 + (1 : Int))) < (a0.length : Int))) then z3 else false)))), (10, .box [.d (.v (.int .i64 0)), .d (.v (.int .i64 0)), .d (.str []), .d (.v (.int .i64 0)), .d (.v (.int .i64 0))]), (11, .d (.v (.int .i64 (0 : Int)))), (12, .d (.v (.int .i64 (IntKind.i64.wrap (v6 - v5))))), (133, .d (.v (.bool (((a0.getD v5.toNat 0).toNat : Int) == (64 : Int)))))] [] 3 (by kernel_rfl) (trivial) ?_
                refine T_cond (((a0.getD v5.toNat 0).toNat : Int) == (64 : Int)) (by kernel_rfl) (fun hc => ?_) (fun hc => ?_)
                · have h := cond_tt hc h
                  obtain ⟨hp12, h⟩ := chk_ok h
                  obtain ⟨z6, hz6, h⟩ := lett_ok h
                  obtain ⟨y8, hy8, h⟩ := call_ok h
                  obtain hs := Option.some.inj h; subst hs
                  refine T_region_end [(4, { rw := some (.d (.str z6)) }), (5, { res := .tup [.agg (cS_Token y8.1), .d (.v (.int .i64 y8.2))] })] [1, 4, 10, 11, 12] [] [(1, .d (.v (.int .i64 v5))), (4, .box [.d (.v (.int .i64 0)), .d (.v (.int .i64 0)), .d (.str []), .d (.v (.int .i64 0)), .d (.v (.int .i64 0))]), (10, .box [.d (.v (.int .i64 y8.1.f0)), .d (.v (.int .i64 y8.1.f1)), .d (.str y8.1.f2), .d (.v (.int .i64 y8.1.f3)), .d (.v (.int .i64 y8.1.f4))]), (11, .d (.v (.int .i64 y8.2))), (12, .d (.v (.int .i64 (IntKind.i64.wrap (v6 - v5)))))] [(4, (0 ≤ (IntKind.i64.wrap (v5 + (1 : Int))) ∧ (IntKind.i64.wrap (v5 + (1 : Int))) ≤ v6 ∧ v6 ≤ (a0.length : Int)) ∧ AV.d (.str ((a0.drop (IntKind.i64.wrap (v5 + (1 : Int))).toNat).take (v6.toNat - (IntKind.i64.wrap (v5 + (1 : Int))).toNat))) = .d (.str z6)), (0, ACall Tryd.prog 80 [.d (.str z6)] [] (.tup [.agg (cS_Token y8.1), .d (.v (.int .i64 y8.2))]) [])] 5 (by kernel_rfl) (⟨⟨hp12, (by subst hz6; rfl)⟩, ref3_refToken_ok hy8⟩) fun a w hm => inBlock_norm (then_norm (hm.co (cs := [.keep [1, 4, 10, 11, 12]]) (by show _ = _; kernel_rfl)))
                · have h := cond_ff hc h
                  refine T_region [] [0, 1, 4, 7, 9, 10, 11, 12, 145] [] [(0, .d (.str a0)), (1, .d (.v (.int .i64 v5))), (4, .box [.d (.v (.int .i64 0)), .d (.v (.int .i64 0)), .d (.str []), .d (.v (.int .i64 0)), .d (.v (.int .i64 0))]), (7, .d (.v (.int .u8 ((a0.getD v5.toNat 0).toNat : Int)))), (9, .d (.v (.bool (bif (decide ((IntKind.i64.wrap (v5 + (1 : Int))) < (a0.length : Int))) then z3 else false)))), (10, .box [.d (.v (.int .i64 0)), .d (.v (.int .i64 0)), .d (.str []), .d (.v (.int .i64 0)), .d (.v (.int .i64 0))]), (11, .d (.v (.int .i64 (0 : Int)))), (12, .d (.v (.int .i64 (IntKind.i64.wrap (v6 - v5))))), (145, .d (.v (.bool (((a0.getD v5.toNat 0).toNat : Int) == (91 : Int)))))] [] 3 (by kernel_rfl) (trivial) ?_
                  refine T_cond (((a0.getD v5.toNat 0).toNat : Int) == (91 : Int)) (by kernel_rfl) (fun hc => ?_) (fun hc => ?_)
                  · have h := cond_tt hc h
                    obtain hs := Option.some.inj h; subst hs
                    refine T_region_end [] [1, 4, 10, 11, 12] [] [(1, .d (.v (.int .i64 v5))), (4, .box [.d (.v (.int .i64 0)), .d (.v (.int .i64 0)), .d (.str []), .d (.v (.int .i64 0)), .d (.v (.int .i64 0))]), (10, .box [.d (.v (.int .i64 (6 : Int))), .d (.v (.int .i64 0)), .d (.str []), .d (.v (.int .i64 0)), .d (.v (.int .i64 0))]), (11, .d (.v (.int .i64 (0 : Int)))), (12, .d (.v (.int .i64 (1 : Int))))] [] 3 (by kernel_rfl) (trivial) fun a w hm => inBlock_norm (then_norm (hm.co (cs := [.keep [1, 4, 10, 11, 12]]) (by show _ = _; kernel_rfl)))
                  · have h := cond_ff hc h
                    refine T_region [] [0, 1, 4, 7, 9, 10, 11, 12, 149] [] [(0, .d (.str a0)), (1, .d (.v (.int .i64 v5))), (4, .box [.d (.v (.int .i64 0)), .d (.v (.int .i64 0)), .d (.str []), .d (.v (.int .i64 0)), .d (.v (.int .i64 0))]), (7, .d (.v (.int .u8 ((a0.getD v5.toNat 0).toNat : Int)))), (9, .d (.v (.bool (bif (decide ((IntKind.i64.wrap (v5 + (1 : Int))) < (a0.length : Int))) then z3 else false)))), (10, .box [.d (.v (.int .i64 0)), .d (.v (.int .i64 0)), .d (.str []), .d (.v (.int .i64 0)), .d (.v (.int .i64 0))]), (11, .d (.v (.int .i64 (0 : Int)))), (12, .d (.v (.int .i64 (IntKind.i64.wrap (v6 - v5))))), (149, .d (.v (.bool (((a0.getD v5.toNat 0).toNat : Int) == (93 : Int)))))] [] 3 (by kernel_rfl) (trivial) ?_
                    refine T_cond (((a0.getD v5.toNat 0).toNat : Int) == (93 : Int)) (by kernel_rfl) (fun hc => ?_) (fun hc => ?_)
                    · have h := cond_tt hc h
                      obtain hs := Option.some.inj h; subst hs
                      refine T_region_end [] [1, 4, 10, 11, 12] [] [(1, .d (.v (.int .i64 v5))), (4, .box [.d (.v (.int .i64 0)), .d (.v (.int .i64 0)), .d (.str []), .d (.v (.int .i64 0)), .d (.v (.int .i64 0))]), (10, .box [.d (.v (.int .i64 (7 : Int))), .d (.v (.int .i64 0)), .d (.str []), .d (.v (.int .i64 0)), .d (.v (.int .i64 0))]), (11, .d (.v (.int .i64 (0 : Int)))), (12, .d (.v (.int .i64 (1 : Int))))] [] 3 (by kernel_rfl) (trivial) fun a w hm => inBlock_norm (then_norm (hm.co (cs := [.keep [1, 4, 10, 11, 12]]) (by show _ = _; kernel_rfl)))
                    · have h := cond_ff hc h
                      obtain ⟨z7, hz7, h⟩ := lett_ok h
                      refine T_region [(4, { rw := some (.d (.v (.bool z7))) })] [0, 1, 4, 7, 9, 10, 11, 12, 153] [] [(0, .d (.str a0)), (1, .d (.v (.int .i64 v5))), (4, .box [.d (.v (.int .i64 0)), .d (.v (.int .i64 0)), .d (.str []), .d (.v (.int .i64 0)), .d (.v (.int .i64 0))]), (7, .d (.v (.int .u8 ((a0.getD v5.toNat 0).toNat : Int)))), (9, .d (.v (.bool (bif (decide ((IntKind.i64.wrap (v5 + (1 : Int))) < (a0.length : Int))) then z3 else false)))), (10, .box [.d (.v (.int .i64 0)), .d (.v (.int .i64 0)), .d (.str []), .d (.v (.int .i64 0)), .d (.v (.int .i64 0))]), (11, .d (.v (.int .i64 (0 : Int)))), (12, .d (.v (.int .i64 (IntKind.i64.wrap (v6 - v5))))), (153, .d (.v (.bool z7)))] [(3, ((((((a0.getD v5.toNat 0).toNat : Int) == (60 : Int)) == true) && true) = true → True)), (0, (True) ∧ AV.d (.v (.bool (bif (((a0.getD v5.toNat 0).toNat : Int) == (60 : Int)) then (bif (decide ((IntKind.i64.wrap (v5 + (1 : Int))) < (a0.length : Int))) then z3 else false) else false))) = .d (.v (.bool z7)))] 1 (by kernel_rfl) (⟨(fun hg => trivial), ⟨trivial, (by subst hz7; rfl)⟩⟩) ?_
                      refine T_cond z7 (by kernel_rfl) (fun hc => ?_) (fun hc => ?_)
                      · have h := cond_tt hc h
                        obtain hs := Option.some.inj h; subst hs
                        refine T_region_end [] [1, 4, 10, 11, 12] [] [(1, .d (.v (.int .i64 v5))), (4, .box [.d (.v (.int .i64 0)), .d (.v (.int .i64 0)), .d (.str []), .d (.v (.int .i64 0)), .d (.v (.int .i64 0))]), (10, .box [.d (.v (.int .i64 (8 : Int))), .d (.v (.int .i64 0)), .d (.str []), .d (.v (.int .i64 0)), .d (.v (.int .i64 0))]), (11, .d (.v (.int .i64 (0 : Int)))), (12, .d (.v (.int .i64 (2 : Int))))] [] 3 (by kernel_rfl) (trivial) fun a w hm => inBlock_norm (then_norm (hm.co (cs := [.keep [1, 4, 10, 11, 12]]) (by show _ = _; kernel_rfl)))
                      · have h := cond_ff hc h
                        obtain ⟨z8, hz8, h⟩ := lett_ok h
                        refine T_region [(4, { rw := some (.d (.v (.bool z8))) })] [0, 1, 4, 7, 10, 11, 12, 160] [] [(0, .d (.str a0)), (1, .d (.v (.int .i64 v5))), (4, .box [.d (.v (.int .i64 0)), .d (.v (.int .i64 0)), .d (.str []), .d (.v (.int .i64 0)), .d (.v (.int .i64 0))]), (7, .d (.v (.int .u8 ((a0.getD v5.toNat 0).toNat : Int)))), (10, .box [.d (.v (.int .i64 0)), .d (.v (.int .i64 0)), .d (.str []), .d (.v (.int .i64 0)), .d (.v (.int .i64 0))]), (11, .d (.v (.int .i64 (0 : Int)))), (12, .d (.v (.int .i64 (IntKind.i64.wrap (v6 - v5))))), (160, .d (.v (.bool z8)))] [(3, ((((((a0.getD v5.toNat 0).toNat : Int) == (62 : Int)) == true) && true) = true → True)), (0, (True) ∧ AV.d (.v (.bool (bif (((a0.getD v5.toNat 0).toNat : Int) == (62 : Int)) then (bif (decide ((IntKind.i64.wrap (v5 + (1 : Int))) < (a0.length : Int))) then z3 else false) else false))) = .d (.v (.bool z8)))] 1 (by kernel_rfl) (⟨(fun hg => trivial), ⟨trivial, (by subst hz8; rfl)⟩⟩) ?_
                        refine T_cond z8 (by kernel_rfl) (fun hc => ?_) (fun hc => ?_)
                        · have h := cond_tt hc h
                          obtain hs := Option.some.inj h; subst hs
                          refine T_region_end [] [1, 4, 10, 11, 12] [] [(1, .d (.v (.int .i64 v5))), (4, .box [.d (.v (.int .i64 0)), .d (.v (.int .i64 0)), .d (.str []), .d (.v (.int .i64 0)), .d (.v (.int .i64 0))]), (10, .box [.d (.v (.int .i64 (9 : Int))), .d (.v (.int .i64 0)), .d (.str []), .d (.v (.int .i64 0)), .d (.v (.int .i64 0))]), (11, .d (.v (.int .i64 (0 : Int)))), (12, .d (.v (.int .i64 (2 : Int))))] [] 3 (by kernel_rfl) (trivial) fun a w hm => inBlock_norm (then_norm (hm.co (cs := [.keep [1, 4, 10, 11, 12]]) (by show _ = _; kernel_rfl)))
                        · have h := cond_ff hc h
                          refine T_region [] [0, 1, 4, 7, 10, 12, 167] [] [(0, .d (.str a0)), (1, .d (.v (.int .i64 v5))), (4, .box [.d (.v (.int .i64 0)), .d (.v (.int .i64 0)), .d (.str []), .d (.v (.int .i64 0)), .d (.v (.int .i64 0))]), (7, .d (.v (.int .u8 ((a0.getD v5.toNat 0).toNat : Int)))), (10, .box [.d (.v (.int .i64 0)), .d (.v (.int .i64 0)), .d (.str []), .d (.v (.int .i64 0)), .d (.v (.int .i64 0))]), (12, .d (.v (.int .i64 (IntKind.i64.wrap (v6 - v5))))), (167, .d (.v (.bool (((a0.getD v5.toNat 0).toNat : Int) == (40 : Int)))))] [] 3 (by kernel_rfl) (trivial) ?_
                          refine T_cond (((a0.getD v5.toNat 0).toNat : Int) == (40 : Int)) (by kernel_rfl) (fun hc => ?_) (fun hc => ?_)
                          · have h := cond_tt hc h
                            obtain ⟨hp13, h⟩ := chk_ok h
                            obtain ⟨z9, hz9, h⟩ := lett_ok h
                            obtain ⟨y9, hy9, h⟩ := call_ok h
                            refine T_region [(3, { rw := some (.d (.str z9)) }), (4, { res := .tup [.agg (cS_Token y9.1), .d (.v (.int .i64 y9.2.1)), .d (.v (.int .i64 y9.2.2))] })] [1, 4, 10, 11, 12] [] [(1, .d (.v (.int .i64 v5))), (4, .box [.d (.v (.int .i64 0)), .d (.v (.int .i64 0)), .d (.str []), .d (.v (.int .i64 0)), .d (.v (.int .i64 0))]), (10, .box [.d (.v (.int .i64 y9.1.f0)), .d (.v (.int .i64 y9.1.f1)), .d (.str y9.1.f2), .d (.v (.int .i64 y9.1.f3)), .d (.v (.int .i64 y9.1.f4))]), (11, .d (.v (.int .i64 y9.2.2))), (12, .d (.v (.int .i64 y9.2.1)))] [(3, (0 ≤ (IntKind.i64.wrap (v5 + (1 : Int))) ∧ (IntKind.i64.wrap (v5 + (1 : Int))) ≤ (a0.length : Int) ∧ (a0.length : Int) ≤ (a0.length : Int)) ∧ AV.d (.str ((a0.drop (IntKind.i64.wrap (v5 + (1 : Int))).toNat).take ((a0.length : Int).toNat - (IntKind.i64.wrap (v5 + (1 : Int))).toNat))) = .d (.str z9)), (0, ACall Tryd.prog 81 [.d (.str z9)] [] (.tup [.agg (cS_Token y9.1), .d (.v (.int .i64 y9.2.1)), .d (.v (.int .i64 y9.2.2))]) [])] 7 (by kernel_rfl) (⟨⟨hp13, (by subst hz9; rfl)⟩, ref3_textToken_ok hy9⟩) ?_
                            obtain hs := Option.some.inj h; subst hs
                            refine T_region_end [] [1, 4, 10, 11, 12] [] [(1, .d (.v (.int .i64 v5))), (4, .box [.d (.v (.int .i64 0)), .d (.v (.int .i64 0)), .d (.str []), .d (.v (.int .i64 0)), .d (.v (.int .i64 0))]), (10, .box [.d (.v (.int .i64 y9.1.f0)), .d (.v (.int .i64 y9.1.f1)), .d (.str y9.1.f2), .d (.v (.int .i64 y9.1.f3)), .d (.v (.int .i64 y9.1.f4))]), (11, .d (.v (.int .i64 y9.2.2))), (12, .d (.v (.int .i64 (IntKind.i64.wrap (y9.2.1 + (1 : Int))))))] [] 3 (by kernel_rfl) (trivial) fun a w hm => inBlock_norm (then_norm (hm.co (cs := [.keep [1, 4, 10, 11, 12]]) (by show _ = _; kernel_rfl)))
                          · have h := cond_ff hc h
                            refine T_region [] [0, 1, 4, 10, 12, 181] [] [(0, .d (.str a0)), (1, .d (.v (.int .i64 v5))), (4, .box [.d (.v (.int .i64 0)), .d (.v (.int .i64 0)), .d (.str []), .d (.v (.int .i64 0)), .d (.v (.int .i64 0))]), (10, .box [.d (.v (.int .i64 0)), .d (.v (.int .i64 0)), .d (.str []), .d (.v (.int .i64 0)), .d (.v (.int .i64 0))]), (12, .d (.v (.int .i64 (IntKind.i64.wrap (v6 - v5))))), (181, .d (.v (.bool (((a0.getD v5.toNat 0).toNat : Int) == (60 : Int)))))] [] 3 (by kernel_rfl) (trivial) ?_
                            refine T_cond (((a0.getD v5.toNat 0).toNat : Int) == (60 : Int)) (by kernel_rfl) (fun hc => ?_) (fun hc => ?_)
                            · have h := cond_tt hc h
                              obtain ⟨hp14, h⟩ := chk_ok h
                              obtain ⟨z10, hz10, h⟩ := lett_ok h
                              obtain ⟨y10, hy10, h⟩ := call_ok h
                              refine T_region [(3, { rw := some (.d (.str z10)) }), (4, { res := .tup [.agg (cS_Token y10.1), .d (.v (.int .i64 y10.2.1)), .d (.v (.int .i64 y10.2.2))] })] [1, 4, 10, 11, 12] [] [(1, .d (.v (.int .i64 v5))), (4, .box [.d (.v (.int .i64 0)), .d (.v (.int .i64 0)), .d (.str []), .d (.v (.int .i64 0)), .d (.v (.int .i64 0))]), (10, .box [.d (.v (.int .i64 y10.1.f0)), .d (.v (.int .i64 y10.1.f1)), .d (.str y10.1.f2), .d (.v (.int .i64 y10.1.f3)), .d (.v (.int .i64 y10.1.f4))]), (11, .d (.v (.int .i64 y10.2.2))), (12, .d (.v (.int .i64 y10.2.1)))] [(3, (0 ≤ (IntKind.i64.wrap (v5 + (1 : Int))) ∧ (IntKind.i64.wrap (v5 + (1 : Int))) ≤ (a0.length : Int) ∧ (a0.length : Int) ≤ (a0.length : Int)) ∧ AV.d (.str ((a0.drop (IntKind.i64.wrap (v5 + (1 : Int))).toNat).take ((a0.length : Int).toNat - (IntKind.i64.wrap (v5 + (1 : Int))).toNat))) = .d (.str z10)), (0, ACall Tryd.prog 82 [.d (.str z10)] [] (.tup [.agg (cS_Token y10.1), .d (.v (.int .i64 y10.2.1)), .d (.v (.int .i64 y10.2.2))]) [])] 7 (by kernel_rfl) (⟨⟨hp14, (by subst hz10; rfl)⟩, ref3_hexToken_ok hy10⟩) ?_
                              obtain hs := Option.some.inj h; subst hs
                              refine T_region_end [] [1, 4, 10, 11, 12] [] [(1, .d (.v (.int .i64 v5))), (4, .box [.d (.v (.int .i64 0)), .d (.v (.int .i64 0)), .d (.str []), .d (.v (.int .i64 0)), .d (.v (.int .i64 0))]), (10, .box [.d (.v (.int .i64 y10.1.f0)), .d (.v (.int .i64 y10.1.f1)), .d (.str y10.1.f2), .d (.v (.int .i64 y10.1.f3)), .d (.v (.int .i64 y10.1.f4))]), (11, .d (.v (.int .i64 y10.2.2))), (12, .d (.v (.int .i64 (IntKind.i64.wrap (y10.2.1 + (1 : Int))))))] [] 3 (by kernel_rfl) (trivial) fun a w hm => inBlock_norm (then_norm (hm.co (cs := [.keep [1, 4, 10, 11, 12]]) (by show _ = _; kernel_rfl)))
                            · have h := cond_ff hc h
                              obtain hs := Option.some.inj h; subst hs
                              refine T_region_end [] [1, 4, 10, 11, 12] [] [(1, .d (.v (.int .i64 v5))), (4, .box [.d (.v (.int .i64 0)), .d (.v (.int .i64 0)), .d (.str []), .d (.v (.int .i64 0)), .d (.v (.int .i64 0))]), (10, .box [.d (.v (.int .i64 0)), .d (.v (.int .i64 0)), .d (.str []), .d (.v (.int .i64 0)), .d (.v (.int .i64 0))]), (11, .d (.v (.int .i64 (5 : Int)))), (12, .d (.v (.int .i64 (IntKind.i64.wrap (v6 - v5)))))] [] 1 (by kernel_rfl) (trivial) fun a w hm => inBlock_norm (then_norm (hm.co (cs := [.keep [1, 4, 10, 11, 12]]) (by show _ = _; kernel_rfl)))
        · obtain ⟨v7, v8, v9, v10, v11, v12, v13⟩ := s
          try dsimp only at h
          refine T_seqk ?_
          refine T_region [] [1, 4, 10, 11, 12, 196] [] [(1, .d (.v (.int .i64 v5))), (4, .box [.d (.v (.int .i64 0)), .d (.v (.int .i64 0)), .d (.str []), .d (.v (.int .i64 0)), .d (.v (.int .i64 0))]), (10, .box [.d (.v (.int .i64 v7)), .d (.v (.int .i64 v8)), .d (.str v9), .d (.v (.int .i64 v10)), .d (.v (.int .i64 v11))]), (11, .d (.v (.int .i64 v12))), (12, .d (.v (.int .i64 v13))), (196, .d (.v (.bool (v12 != (0 : Int)))))] [] 2 (by kernel_rfl) (trivial) ?_
          refine T_cond (v12 != (0 : Int)) (by kernel_rfl) (fun hc => ?_) (fun hc => ?_)
          · have h := cond_tt hc h
            refine T_region [] [4, 5, 6] [] [(4, .box [.d (.v (.int .i64 0)), .d (.v (.int .i64 0)), .d (.str []), .d (.v (.int .i64 0)), .d (.v (.int .i64 0))]), (5, .d (.v (.int .i64 v5))), (6, .d (.v (.int .i64 v12)))] [] 6 (by kernel_rfl) (trivial) ?_
            obtain hs := Option.some.inj h; subst hs
            refine T_ret fun a w hm => then_ret (T_returnC (fr' := [(4, .box [.d (.v (.int .i64 0)), .d (.v (.int .i64 0)), .d (.str []), .d (.v (.int .i64 0)), .d (.v (.int .i64 0))]), (5, .d (.v (.int .i64 v5))), (6, .d (.v (.int .i64 v12)))]) (ts := [208, 5, 6]) (N' := 209) (fr2 := [(208, .agg (cS_Token (S_Token.mk 0 0 [] 0 0)))] ++ [(4, .box [.d (.v (.int .i64 0)), .d (.v (.int .i64 0)), .d (.str []), .d (.v (.int .i64 0)), .d (.v (.int .i64 0))]), (5, .d (.v (.int .i64 v5))), (6, .d (.v (.int .i64 v12)))]) [.keep [4, 5, 6]] (by kernel_rfl) (by kernel_rfl) (by kernel_rfl) (by kernel_rfl) (by show _ = _; kernel_rfl) (by exact trivial) a w hm)
          · have h := cond_ff hc h
            refine T_skip fun a w hm => then_norm (((?_ : T Tryd.prog e 208 _ _ _) a w hm))
            refine T_region [] [1, 4, 10] [] [(1, .d (.v (.int .i64 v5))), (4, .box [.d (.v (.int .i64 0)), .d (.v (.int .i64 0)), .d (.str []), .d (.v (.int .i64 0)), .d (.v (.int .i64 0))]), (10, .box [.d (.v (.int .i64 v7)), .d (.v (.int .i64 v8)), .d (.str v9), .d (.v (.int .i64 v5)), .d (.v (.int .i64 (IntKind.i64.wrap (v5 + v13))))])] [] 8 (by kernel_rfl) (trivial) ?_
            refine T_region [] [4, 5, 6] [] [(4, .box [.d (.v (.int .i64 v7)), .d (.v (.int .i64 v8)), .d (.str v9), .d (.v (.int .i64 v5)), .d (.v (.int .i64 (IntKind.i64.wrap (v5 + v13))))]), (5, .d (.v (.int .i64 v5))), (6, .d (.v (.int .i64 (0 : Int))))] [] 5 (by kernel_rfl) (trivial) ?_
            obtain hs := Option.some.inj h; subst hs
            refine T_ret fun a w hm => T_returnC (fr' := [(4, .box [.d (.v (.int .i64 v7)), .d (.v (.int .i64 v8)), .d (.str v9), .d (.v (.int .i64 v5)), .d (.v (.int .i64 (IntKind.i64.wrap (v5 + v13))))]), (5, .d (.v (.int .i64 v5))), (6, .d (.v (.int .i64 (0 : Int))))]) (ts := [208, 5, 6]) (N' := 209) (fr2 := [(208, .agg (cS_Token (S_Token.mk v7 v8 v9 v5 (IntKind.i64.wrap (v5 + v13)))))] ++ [(4, .box [.d (.v (.int .i64 v7)), .d (.v (.int .i64 v8)), .d (.str v9), .d (.v (.int .i64 v5)), .d (.v (.int .i64 (IntKind.i64.wrap (v5 + v13))))]), (5, .d (.v (.int .i64 v5))), (6, .d (.v (.int .i64 (0 : Int))))]) [.keep [4, 5, 6]] (by kernel_rfl) (by kernel_rfl) (by kernel_rfl) (by kernel_rfl) (by show _ = _; kernel_rfl) (by exact trivial) a w hm

theorem law3_TokenNextAtAnyOffset_ok {F : Nat} {a0 : List UInt8} {a1 : Int} {r : Bool} (h : law3_TokenNextAtAnyOffset F a0 a1 = some r) : ACall Tryd.prog 11 [.d (.str a0), .d (.v (.int .i64 a1))] [] (.d (.v (.bool r))) [] := by
  rw [law3_TokenNextAtAnyOffset] at h
  refine ACall.intro (N := 76) Tryd.func11 rfl rfl rfl rfl rfl fun e => ?_
  refine T_region [] [0, 1] [] [(0, .d (.str a0)), (1, .d (.v (.int .i64 a1)))] [] 1 (by kernel_rfl) (trivial) ?_
  refine T_seqk ?_
  obtain ⟨y1, hy1, h⟩ := call_ok h
  refine T_region [(0, { res := .d (.v (.bool y1)) })] [0, 1, 12] [] [(0, .d (.str a0)), (1, .d (.v (.int .i64 a1))), (12, .d (.v (.bool (!y1))))] [(0, ACall Tryd.prog 42 [] [] (.d (.v (.bool y1))) [])] 1 (by kernel_rfl) (law3_tokenFact_ok hy1) ?_
  refine T_cond (!y1) (by kernel_rfl) (fun hc => ?_) (fun hc => ?_)
  · have h := cond_tt hc h
    refine T_region [] [4] [] [(4, .d (.v (.bool false)))] [] 1 (by kernel_rfl) (trivial) ?_
    obtain hs := Option.some.inj h; subst hs
    refine T_ret fun a w hm => then_ret (T_return (fr' := [(4, .d (.v (.bool false)))]) [4] (by kernel_rfl) [.keep [4]] (by kernel_rfl) (by kernel_rfl) (by kernel_rfl) (by show _ = _; kernel_rfl) (by exact trivial) a w hm)
  · have h := cond_ff hc h
    refine T_skip fun a w hm => then_norm (((?_ : T Tryd.prog e 76 _ _ _) a w hm))
    obtain ⟨y2, hy2, h⟩ := call_ok h
    refine T_region [(2, { res := .tup [.agg (cS_Token y2.1), .d (.v (.int .i64 y2.2.1)), .d (.v (.int .i64 y2.2.2))] })] [0, 1, 5, 6, 7] [] [(0, .d (.str a0)), (1, .d (.v (.int .i64 a1))), (5, .box [.d (.v (.int .i64 y2.1.f0)), .d (.v (.int .i64 y2.1.f1)), .d (.str y2.1.f2), .d (.v (.int .i64 y2.1.f3)), .d (.v (.int .i64 y2.1.f4))]), (6, .d (.v (.int .i64 y2.2.1))), (7, .d (.v (.int .i64 y2.2.2)))] [(2, ACall Tryd.prog 43 [.d (.str a0), .d (.v (.int .i64 a1))] [] (.tup [.agg (cS_Token y2.1), .d (.v (.int .i64 y2.2.1)), .d (.v (.int .i64 y2.2.2))]) [])] 8 (by kernel_rfl) (token_Next_ok hy2) ?_
    refine T_seqk ?_
    refine T_region [] [0, 1, 5, 6, 7, 22] [] [(0, .d (.str a0)), (1, .d (.v (.int .i64 a1))), (5, .box [.d (.v (.int .i64 y2.1.f0)), .d (.v (.int .i64 y2.1.f1)), .d (.str y2.1.f2), .d (.v (.int .i64 y2.1.f3)), .d (.v (.int .i64 y2.1.f4))]), (6, .d (.v (.int .i64 y2.2.1))), (7, .d (.v (.int .i64 y2.2.2))), (22, .d (.v (.bool (decide ((a0.length : Int) > (8192 : Int))))))] [] 3 (by kernel_rfl) (trivial) ?_
    refine T_cond (decide ((a0.length : Int) > (8192 : Int))) (by kernel_rfl) (fun hc => ?_) (fun hc => ?_)
    · have h := cond_tt hc h
      refine T_region [] [4] [] [(4, .d (.v (.bool (bif (y2.2.2 == (2 : Int)) then (y2.2.1 == (0 : Int)) else false))))] [(3, ((((y2.2.2 == (2 : Int)) == true) && true) = true → True)), (0, ((((y2.2.2 == (2 : Int)) == true) && true) = true → True))] 2 (by kernel_rfl) (⟨(fun hg => trivial), (fun hg => trivial)⟩) ?_
      obtain hs := Option.some.inj h; subst hs
      refine T_ret fun a w hm => then_ret (T_return (fr' := [(4, .d (.v (.bool (bif (y2.2.2 == (2 : Int)) then (y2.2.1 == (0 : Int)) else false))))]) [4] (by kernel_rfl) [.keep [4]] (by kernel_rfl) (by kernel_rfl) (by kernel_rfl) (by show _ = _; kernel_rfl) (by exact trivial) a w hm)
    · have h := cond_ff hc h
      refine T_skip fun a w hm => then_norm (((?_ : T Tryd.prog e 76 _ _ _) a w hm))
      refine T_seqk ?_
      refine T_region [] [0, 1, 5, 6, 7, 36] [] [(0, .d (.str a0)), (1, .d (.v (.int .i64 a1))), (5, .box [.d (.v (.int .i64 y2.1.f0)), .d (.v (.int .i64 y2.1.f1)), .d (.str y2.1.f2), .d (.v (.int .i64 y2.1.f3)), .d (.v (.int .i64 y2.1.f4))]), (6, .d (.v (.int .i64 y2.2.1))), (7, .d (.v (.int .i64 y2.2.2))), (36, .d (.v (.bool (bif (decide (a1 < (0 : Int))) then true else (decide (a1 > (a0.length : Int)))))))] [(3, ((((decide (a1 < (0 : Int))) == false) && true) = true → True)), (0, ((((decide (a1 < (0 : Int))) == false) && true) = true → True)), (0, ((((decide (a1 < (0 : Int))) == false) && true) = true → True)), (0, ((((decide (a1 < (0 : Int))) == false) && true) = true → True))] 1 (by kernel_rfl) (⟨(fun hg => trivial), (fun hg => trivial), (fun hg => trivial), (fun hg => trivial)⟩) ?_
      refine T_cond (bif (decide (a1 < (0 : Int))) then true else (decide (a1 > (a0.length : Int)))) (by kernel_rfl) (fun hc => ?_) (fun hc => ?_)
      · have h := cond_tt hc h
        refine T_region [] [4] [] [(4, .d (.v (.bool (bif (y2.2.2 == (3 : Int)) then (y2.2.1 == (0 : Int)) else false))))] [(3, ((((y2.2.2 == (3 : Int)) == true) && true) = true → True)), (0, ((((y2.2.2 == (3 : Int)) == true) && true) = true → True))] 2 (by kernel_rfl) (⟨(fun hg => trivial), (fun hg => trivial)⟩) ?_
        obtain hs := Option.some.inj h; subst hs
        refine T_ret fun a w hm => then_ret (T_return (fr' := [(4, .d (.v (.bool (bif (y2.2.2 == (3 : Int)) then (y2.2.1 == (0 : Int)) else false))))]) [4] (by kernel_rfl) [.keep [4]] (by kernel_rfl) (by kernel_rfl) (by kernel_rfl) (by show _ = _; kernel_rfl) (by exact trivial) a w hm)
      · have h := cond_ff hc h
        refine T_skip fun a w hm => then_norm (((?_ : T Tryd.prog e 76 _ _ _) a w hm))
        obtain ⟨y3, hy3, h⟩ := call_ok h
        refine T_region [(2, { res := .tup [.agg (cS_Token y3.1), .d (.v (.int .i64 y3.2.1)), .d (.v (.int .i64 y3.2.2))] })] [5, 6, 7, 8, 9, 10] [] [(5, .box [.d (.v (.int .i64 y2.1.f0)), .d (.v (.int .i64 y2.1.f1)), .d (.str y2.1.f2), .d (.v (.int .i64 y2.1.f3)), .d (.v (.int .i64 y2.1.f4))]), (6, .d (.v (.int .i64 y2.2.1))), (7, .d (.v (.int .i64 y2.2.2))), (8, .box [.d (.v (.int .i64 y3.1.f0)), .d (.v (.int .i64 y3.1.f1)), .d (.str y3.1.f2), .d (.v (.int .i64 y3.1.f3)), .d (.v (.int .i64 y3.1.f4))]), (9, .d (.v (.int .i64 y3.2.1))), (10, .d (.v (.int .i64 y3.2.2)))] [(2, ACall Tryd.prog 44 [.d (.str a0), .d (.v (.int .i64 a1))] [] (.tup [.agg (cS_Token y3.1), .d (.v (.int .i64 y3.2.1)), .d (.v (.int .i64 y3.2.2))]) [])] 8 (by kernel_rfl) (ref3_Lex_ok hy3) ?_
        refine T_seqk ?_
        refine T_region [] [5, 6, 7, 8, 9, 10, 51] [] [(5, .box [.d (.v (.int .i64 y2.1.f0)), .d (.v (.int .i64 y2.1.f1)), .d (.str y2.1.f2), .d (.v (.int .i64 y2.1.f3)), .d (.v (.int .i64 y2.1.f4))]), (6, .d (.v (.int .i64 y2.2.1))), (7, .d (.v (.int .i64 y2.2.2))), (8, .box [.d (.v (.int .i64 y3.1.f0)), .d (.v (.int .i64 y3.1.f1)), .d (.str y3.1.f2), .d (.v (.int .i64 y3.1.f3)), .d (.v (.int .i64 y3.1.f4))]), (9, .d (.v (.int .i64 y3.2.1))), (10, .d (.v (.int .i64 y3.2.2))), (51, .d (.v (.bool (y3.2.2 != (0 : Int)))))] [] 2 (by kernel_rfl) (trivial) ?_
        refine T_cond (y3.2.2 != (0 : Int)) (by kernel_rfl) (fun hc => ?_) (fun hc => ?_)
        · have h := cond_tt hc h
          obtain ⟨z1, hz1, h⟩ := lett_ok h
          refine T_region [(12, { rw := some (.d (.v (.bool z1))) })] [4] [] [(4, .d (.v (.bool z1)))] [(4, ((((y2.2.2 == y3.2.2) == true) && true) = true → True)), (0, ((((y2.2.2 == y3.2.2) == true) && true) = true → True)), (0, ((((y2.2.2 == y3.2.2) == true) && true) = true → True)), (2, ((((bif (y2.2.2 == y3.2.2) then (y2.2.1 == y3.2.1) else false) == true) && true) = true → True)), (0, ((((bif (y2.2.2 == y3.2.2) then (y2.2.1 == y3.2.1) else false) == true) && true) = true → True)), (0, ((((bif (y2.2.2 == y3.2.2) then (y2.2.1 == y3.2.1) else false) == true) && true) = true → True)), (0, (True) ∧ AV.d (.v (.bool (bif (bif (y2.2.2 == y3.2.2) then (y2.2.1 == y3.2.1) else false) then (y2.1.f0 == 0 && (y2.1.f1 == 0 && (y2.1.f2 == [] && (y2.1.f3 == 0 && (y2.1.f4 == 0 && true))))) else false))) = .d (.v (.bool z1)))] 1 (by kernel_rfl) (⟨(fun hg => trivial), (fun hg => trivial), (fun hg => trivial), (fun hg => trivial), (fun hg => trivial), (fun hg => trivial), ⟨trivial, (by subst hz1; rfl)⟩⟩) ?_
          obtain hs := Option.some.inj h; subst hs
          refine T_ret fun a w hm => then_ret (T_return (fr' := [(4, .d (.v (.bool z1)))]) [4] (by kernel_rfl) [.keep [4]] (by kernel_rfl) (by kernel_rfl) (by kernel_rfl) (by show _ = _; kernel_rfl) (by exact trivial) a w hm)
        · have h := cond_ff hc h
          refine T_skip fun a w hm => then_norm (((?_ : T Tryd.prog e 76 _ _ _) a w hm))
          obtain ⟨z2, hz2, h⟩ := lett_ok h
          refine T_region [(9, { rw := some (.d (.v (.bool z2))) })] [4] [] [(4, .d (.v (.bool (bif (bif (y2.2.2 == (0 : Int)) then (y2.2.1 == (0 : Int)) else false) then z2 else false))))] [(3, ((((y2.2.2 == (0 : Int)) == true) && true) = true → True)), (0, ((((y2.2.2 == (0 : Int)) == true) && true) = true → True)), (2, ((((bif (y2.2.2 == (0 : Int)) then (y2.2.1 == (0 : Int)) else false) == true) && true) = true → True)), (0, ((((bif (y2.2.2 == (0 : Int)) then (y2.2.1 == (0 : Int)) else false) == true) && true) = true → True)), (0, ((((bif (y2.2.2 == (0 : Int)) then (y2.2.1 == (0 : Int)) else false) == true) && true) = true → (True) ∧ AV.d (.v (.bool (y2.1.f0 == y3.1.f0 && (y2.1.f1 == y3.1.f1 && (y2.1.f2 == y3.1.f2 && (y2.1.f3 == y3.1.f3 && (y2.1.f4 == y3.1.f4 && true))))))) = .d (.v (.bool z2))))] 2 (by kernel_rfl) (⟨(fun hg => trivial), (fun hg => trivial), (fun hg => trivial), (fun hg => trivial), (fun hg => ⟨trivial, (by subst hz2; rfl)⟩)⟩) ?_
          obtain hs := Option.some.inj h; subst hs
          refine T_ret fun a w hm => T_return (fr' := [(4, .d (.v (.bool (bif (bif (y2.2.2 == (0 : Int)) then (y2.2.1 == (0 : Int)) else false) then z2 else false))))]) [4] (by kernel_rfl) [.keep [4]] (by kernel_rfl) (by kernel_rfl) (by kernel_rfl) (by show _ = _; kernel_rfl) (by exact trivial) a w hm

theorem ref3_Lexed_ok {F : Nat} {a0 : List UInt8} {r : (List S_Token) × Int × Int} (h : ref3_Lexed F a0 = some r) : ACall Tryd.prog 46 [.d (.str a0)] [] (.tup [.own 23 5 (r.1.map cS_Token), .d (.v (.int .i64 r.2.1)), .d (.v (.int .i64 r.2.2))]) [] := by
  rw [ref3_Lexed] at h
  refine ACall.intro (N := 34) Tryd.func46 rfl rfl rfl rfl rfl fun e => ?_
  refine T_region [] [0] [] [(0, .d (.str a0))] [] 3 (by kernel_rfl) (trivial) ?_
  refine T_seqk ?_
  refine T_region [] [0, 12] [] [(0, .d (.str a0)), (12, .d (.v (.bool (decide ((a0.length : Int) > (8192 : Int))))))] [] 3 (by kernel_rfl) (trivial) ?_
  refine T_cond (decide ((a0.length : Int) > (8192 : Int))) (by kernel_rfl) (fun hc => ?_) (fun hc => ?_)
  · have h := cond_tt hc h
    refine T_region [] [2, 3, 4] [] [(2, .own 23 5 ([].map cS_Token)), (3, .d (.v (.int .i64 (0 : Int)))), (4, .d (.v (.int .i64 (2 : Int))))] [] 3 (by kernel_rfl) (trivial) ?_
    obtain hs := Option.some.inj h; subst hs
    refine T_ret fun a w hm => then_ret (T_return (fr' := [(2, .own 23 5 ([].map cS_Token)), (3, .d (.v (.int .i64 (0 : Int)))), (4, .d (.v (.int .i64 (2 : Int))))]) [2, 3, 4] (by kernel_rfl) [.keep [2, 3, 4]] (by kernel_rfl) (by kernel_rfl) (by kernel_rfl) (by show _ = _; kernel_rfl) (by exact trivial) a w hm)
  · have h := cond_ff hc h
    refine T_skip fun a w hm => then_norm (((?_ : T Tryd.prog e 34 _ _ _) a w hm))
    refine T_region [] [0, 5] [] [(0, .d (.str a0)), (5, .own 23 5 ([].map cS_Token))] [] 1 (by kernel_rfl) (trivial) ?_
    refine T_region [] [0, 5, 6] [] [(0, .d (.str a0)), (5, .own 23 5 ([].map cS_Token)), (6, .d (.v (.int .i64 (0 : Int))))] [] 1 (by kernel_rfl) (trivial) ?_
    refine T_joinEt h (fun (_ : Empty) => ([] : Fr)) (fun s h hk1 => ?_) (fun s h => ?_)
    · refine T_co [.keep [0, 5, 6]] ((fun (p : (List S_Token) × Int) => [(0, .d (.str a0)), (5, .own 23 5 (p.1.map cS_Token)), (6, .d (.v (.int .i64 p.2)))]) ([], (0 : Int))) (by show _ = _; kernel_rfl) ?_
      refine T_block ?_
      refine T_loopF (ι := (List S_Token) × Int) (fun (p : (List S_Token) × Int) => [(0, .d (.str a0)), (5, .own 23 5 (p.1.map cS_Token)), (6, .d (.v (.int .i64 p.2)))]) (fun n p => ref3_Lexed_L0 F a0 n p.1 p.2 = some s) (fun i hh => by simp [ref3_Lexed_L0] at hh) (fun n p h => ?_) F ([], (0 : Int)) h
      obtain ⟨v1, v2⟩ := p
      have h : ref3_Lexed_L0 F a0 (n + 1) v1 v2 = some s := h
      rw [ref3_Lexed_L0] at h
      refine T_block ?_
      obtain ⟨y1, hy1, h⟩ := call_ok h
      refine T_region [(2, { res := .tup [.agg (cS_Token y1.1), .d (.v (.int .i64 y1.2.1)), .d (.v (.int .i64 y1.2.2))] })] [0, 5, 7, 8, 9] [] [(0, .d (.str a0)), (5, .own 23 5 (v1.map cS_Token)), (7, .box [.d (.v (.int .i64 y1.1.f0)), .d (.v (.int .i64 y1.1.f1)), .d (.str y1.1.f2), .d (.v (.int .i64 y1.1.f3)), .d (.v (.int .i64 y1.1.f4))]), (8, .d (.v (.int .i64 y1.2.1))), (9, .d (.v (.int .i64 y1.2.2)))] [(2, ACall Tryd.prog 44 [.d (.str a0), .d (.v (.int .i64 v2))] [] (.tup [.agg (cS_Token y1.1), .d (.v (.int .i64 y1.2.1)), .d (.v (.int .i64 y1.2.2))]) [])] 8 (by kernel_rfl) (ref3_Lex_ok hy1) ?_
      refine T_seqk ?_
      refine T_region [] [0, 5, 7, 8, 9, 21] [] [(0, .d (.str a0)), (5, .own 23 5 (v1.map cS_Token)), (7, .box [.d (.v (.int .i64 y1.1.f0)), .d (.v (.int .i64 y1.1.f1)), .d (.str y1.1.f2), .d (.v (.int .i64 y1.1.f3)), .d (.v (.int .i64 y1.1.f4))]), (8, .d (.v (.int .i64 y1.2.1))), (9, .d (.v (.int .i64 y1.2.2))), (21, .d (.v (.bool (y1.2.2 != (0 : Int)))))] [] 2 (by kernel_rfl) (trivial) ?_
      refine T_cond (y1.2.2 != (0 : Int)) (by kernel_rfl) (fun hc => ?_) (fun hc => ?_)
      · have h := cond_tt hc h
        refine T_region [] [2, 3, 4] [] [(2, .own 23 5 ([].map cS_Token)), (3, .d (.v (.int .i64 y1.2.1))), (4, .d (.v (.int .i64 y1.2.2)))] [] 5 (by kernel_rfl) (trivial) ?_
        obtain hs := Option.some.inj h; subst hs
        have h := callE_esc hk1
        obtain hs := Option.some.inj h; subst hs
        refine T_ret fun a w hm => then_ret (inBlock_ret (then_ret (inBlock_ret (then_ret (T_return (fr' := [(2, .own 23 5 ([].map cS_Token)), (3, .d (.v (.int .i64 y1.2.1))), (4, .d (.v (.int .i64 y1.2.2)))]) [2, 3, 4] (by kernel_rfl) [.keep [2, 3, 4]] (by kernel_rfl) (by kernel_rfl) (by kernel_rfl) (by show _ = _; kernel_rfl) (by exact trivial) a w hm)))))
      · have h := cond_ff hc h
        refine T_skip fun a w hm => then_norm (((?_ : T Tryd.prog e 34 _ _ _) a w hm))
        refine T_seqk ?_
        refine T_region [] [0, 5, 7, 26] [] [(0, .d (.str a0)), (5, .own 23 5 (v1.map cS_Token)), (7, .box [.d (.v (.int .i64 y1.1.f0)), .d (.v (.int .i64 y1.1.f1)), .d (.str y1.1.f2), .d (.v (.int .i64 y1.1.f3)), .d (.v (.int .i64 y1.1.f4))]), (26, .d (.v (.bool (y1.1.f0 == (0 : Int)))))] [] 3 (by kernel_rfl) (trivial) ?_
        refine T_cond (y1.1.f0 == (0 : Int)) (by kernel_rfl) (fun hc => ?_) (fun hc => ?_)
        · have h := cond_tt hc h
          refine T_region [] [2, 3, 4, 5] [] [(2, .vw (5, 0)), (3, .d (.v (.int .i64 (0 : Int)))), (4, .d (.v (.int .i64 (0 : Int)))), (5, .own 23 5 (v1.map cS_Token))] [] 4 (by kernel_rfl) (trivial) ?_
          obtain hs := Option.some.inj h; subst hs
          have h := callE_esc hk1
          obtain hs := Option.some.inj h; subst hs
          refine T_ret fun a w hm => then_ret (inBlock_ret (then_ret (inBlock_ret (then_ret (T_return (fr' := [(2, .own 23 5 (v1.map cS_Token)), (3, .d (.v (.int .i64 (0 : Int)))), (4, .d (.v (.int .i64 (0 : Int))))]) [2, 3, 4] (by kernel_rfl) [.claim 2, .keep [2, 3, 4]] (by kernel_rfl) (by kernel_rfl) (by kernel_rfl) (by show _ = _; kernel_rfl) (by exact trivial) a w hm)))))
        · have h := cond_ff hc h
          refine T_skip fun a w hm => then_norm (((?_ : T Tryd.prog e 34 _ _ _) a w hm))
          obtain ⟨hp1, h⟩ := chk_ok h
          refine T_drawX_end mixed 4 (.take 0 (.take 4 (.all (.alt 1 (.all (.alt 2 (.all (.alt 3 (.take 6 (.all (.alt 5 (.take 7 .done) .stop))) (.alt 5 (.all (.alt 3 (.take 6 (.take 7 .done)) .stop)) .stop))) (.alt 5 (.all (.alt 2 (.all (.alt 3 (.take 6 (.take 7 .done)) .stop)) .stop)) .stop))) (.alt 5 (.all (.alt 1 (.all (.alt 2 (.all (.alt 3 (.take 6 (.take 7 .done)) .stop)) .stop)) .stop)) .stop))))) ([0, 0, 2, 5, 0, 16, 15, 127], [0, 0, 2, 5, 0, 16, 9, 32]) 209 [(2, { es := some (([y1.1]).map cS_Token) }), (3, { es := some ((v1 ++ ([y1.1])).map cS_Token) })] [0, 5, 6] [] [(0, .d (.str a0)), (5, .own 23 5 ((v1 ++ ([y1.1])).map cS_Token)), (6, .d (.v (.int .i64 y1.1.f4)))] ((fun (o2 : Prop) => fun (o3 : Prop) => [(3, o2), (0, o3), (4, o3), (3, o2), (0, o3), (4, o2), (0, o3)]) ((([y1.1]).map cS_Token) = (([y1.1]).map cS_Token)) ((v1.map cS_Token).length + (([y1.1]).map cS_Token).length ≤ 4294967296 ∧ (v1.map cS_Token) ++ (([y1.1]).map cS_Token) = ((v1 ++ ([y1.1])).map cS_Token))) 2 (by kernel_rfl) (by kernel_rfl) (by kernel_rfl) (have p2 := rfl; have p3 := app_ok cS_Token hp1; ⟨p2, p3, p3, p2, p3, p2, p3⟩) fun a w hm => inBlock_norm (then_norm (⟨((v1 ++ ([y1.1])), y1.1.f4), h, hm.co (cs := [.keep [0, 5, 6]]) (by show _ = _; kernel_rfl)⟩))
    · skip
      exact s.elim

theorem slices_Equal_Token_ok {F : Nat} {a0 : List S_Token} {a1 : List S_Token} {r : Bool} (h : slices_Equal_Token F a0 a1 = some r) : ACall Tryd.prog 47 [.d (.sl 5 (a0.map cS_Token)), .d (.sl 5 (a1.map cS_Token))] [] (.d (.v (.bool r))) [] := by
  rw [slices_Equal_Token] at h
  refine ACall.intro (N := 26) Tryd.func47 rfl rfl rfl rfl rfl fun e => ?_
  refine T_region [] [0, 1] [] [(0, .d (.sl 5 (a0.map cS_Token))), (1, .d (.sl 5 (a1.map cS_Token)))] [] 1 (by kernel_rfl) (trivial) ?_
  refine T_seqk ?_
  refine T_region [(1, { rw := some (.d (.v (.int .i64 (a0.length : Int)))) }), (3, { rw := some (.d (.v (.int .i64 (a1.length : Int)))) })] [0, 1, 10] [] [(0, .d (.sl 5 (a0.map cS_Token))), (1, .d (.sl 5 (a1.map cS_Token))), (10, .d (.v (.bool ((a0.length : Int) != (a1.length : Int)))))] [(1, True ∧ AV.d (.v (.int .i64 ((a0.map cS_Token).length : Int))) = .d (.v (.int .i64 (a0.length : Int)))), (1, True ∧ AV.d (.v (.int .i64 ((a1.map cS_Token).length : Int))) = .d (.v (.int .i64 (a1.length : Int))))] 1 (by kernel_rfl) (⟨len_ok cS_Token, len_ok cS_Token⟩) ?_
  refine T_cond ((a0.length : Int) != (a1.length : Int)) (by kernel_rfl) (fun hc => ?_) (fun hc => ?_)
  · have h := cond_tt hc h
    refine T_region [] [4] [] [(4, .d (.v (.bool false)))] [] 1 (by kernel_rfl) (trivial) ?_
    obtain hs := Option.some.inj h; subst hs
    refine T_ret fun a w hm => then_ret (T_return (fr' := [(4, .d (.v (.bool false)))]) [4] (by kernel_rfl) [.keep [4]] (by kernel_rfl) (by kernel_rfl) (by kernel_rfl) (by show _ = _; kernel_rfl) (by exact trivial) a w hm)
  · have h := cond_ff hc h
    refine T_skip fun a w hm => then_norm (((?_ : T Tryd.prog e 26 _ _ _) a w hm))
    refine T_seqk ?_
    refine T_region [(1, { rw := some (.d (.v (.int .i64 (a0.length : Int)))) })] [0, 1, 12, 13] [] [(0, .d (.sl 5 (a0.map cS_Token))), (1, .d (.sl 5 (a1.map cS_Token))), (12, .d (.v (.int .i64 (a0.length : Int)))), (13, .d (.v (.int .i64 (0 : Int))))] [(1, True ∧ AV.d (.v (.int .i64 ((a0.map cS_Token).length : Int))) = .d (.v (.int .i64 (a0.length : Int))))] 1 (by kernel_rfl) (len_ok cS_Token) ?_
    refine T_joinEt h (fun (p : Unit) => []) (fun s h hk1 => ?_) (fun s h => ?_)
    · refine T_co [.keep [0, 1, 12, 13]] ((fun (p : Int) => [(0, .d (.sl 5 (a0.map cS_Token))), (1, .d (.sl 5 (a1.map cS_Token))), (12, .d (.v (.int .i64 (a0.length : Int)))), (13, .d (.v (.int .i64 p)))]) (0 : Int)) (by show _ = _; kernel_rfl) ?_
      refine T_block ?_
      refine T_loopF (ι := Int) (fun (p : Int) => [(0, .d (.sl 5 (a0.map cS_Token))), (1, .d (.sl 5 (a1.map cS_Token))), (12, .d (.v (.int .i64 (a0.length : Int)))), (13, .d (.v (.int .i64 p)))]) (fun n p => slices_Equal_Token_L0 F a0 a1 n p = some s) (fun i hh => by simp [slices_Equal_Token_L0] at hh) (fun n v1 h => ?_) F (0 : Int) h
      have h : slices_Equal_Token_L0 F a0 a1 (n + 1) v1 = some s := h
      rw [slices_Equal_Token_L0] at h
      refine T_region [] [0, 1, 12, 13, 14] [] [(0, .d (.sl 5 (a0.map cS_Token))), (1, .d (.sl 5 (a1.map cS_Token))), (12, .d (.v (.int .i64 (a0.length : Int)))), (13, .d (.v (.int .i64 v1))), (14, .d (.v (.bool (decide (v1 < (a0.length : Int))))))] [] 1 (by kernel_rfl) (trivial) ?_
      refine T_seqk ?_
      refine T_cond (decide (v1 < (a0.length : Int))) (by kernel_rfl) (fun hc => ?_) (fun hc => ?_)
      · have h := cond_tt hc h
        refine T_skip fun a w hm => then_norm (((?_ : T Tryd.prog e 26 _ _ _) a w hm))
        refine T_seqk ?_
        refine T_block ?_
        refine T_region [] [0, 1, 5, 12, 13] [] [(0, .d (.sl 5 (a0.map cS_Token))), (1, .d (.sl 5 (a1.map cS_Token))), (5, .d (.v (.int .i64 v1))), (12, .d (.v (.int .i64 (a0.length : Int)))), (13, .d (.v (.int .i64 v1)))] [] 2 (by kernel_rfl) (trivial) ?_
        obtain ⟨hp1, h⟩ := chk_ok h
        obtain ⟨hp2, h⟩ := chk_ok h
        obtain ⟨z1, hz1, h⟩ := lett_ok h
        refine T_draw mixed [(2, { cs := cS_Token (a0.getD v1.toNat (S_Token.mk 0 0 [] 0 0)) }), (6, { cs := cS_Token (a1.getD v1.toNat (S_Token.mk 0 0 [] 0 0)) }), (8, { rw := some (.d (.v (.bool z1))) })] [0, 1, 12, 13, 24] [] [(0, .d (.sl 5 (a0.map cS_Token))), (1, .d (.sl 5 (a1.map cS_Token))), (12, .d (.v (.int .i64 (a0.length : Int)))), (13, .d (.v (.int .i64 v1))), (24, .d (.v (.bool z1)))] [(2, 0 ≤ v1 ∧ (a0.map cS_Token)[v1.toNat]? = some (cS_Token (a0.getD v1.toNat (S_Token.mk 0 0 [] 0 0)))), (3, 0 ≤ v1 ∧ (a1.map cS_Token)[v1.toNat]? = some (cS_Token (a1.getD v1.toNat (S_Token.mk 0 0 [] 0 0)))), (1, (True) ∧ AV.d (.v (.bool (!((a0.getD v1.toNat (S_Token.mk 0 0 [] 0 0)).f0 == (a1.getD v1.toNat (S_Token.mk 0 0 [] 0 0)).f0 && ((a0.getD v1.toNat (S_Token.mk 0 0 [] 0 0)).f1 == (a1.getD v1.toNat (S_Token.mk 0 0 [] 0 0)).f1 && ((a0.getD v1.toNat (S_Token.mk 0 0 [] 0 0)).f2 == (a1.getD v1.toNat (S_Token.mk 0 0 [] 0 0)).f2 && ((a0.getD v1.toNat (S_Token.mk 0 0 [] 0 0)).f3 == (a1.getD v1.toNat (S_Token.mk 0 0 [] 0 0)).f3 && ((a0.getD v1.toNat (S_Token.mk 0 0 [] 0 0)).f4 == (a1.getD v1.toNat (S_Token.mk 0 0 [] 0 0)).f4 && true)))))))) = .d (.v (.bool z1)))] 0 (by kernel_rfl) (⟨idx_ok (d := (S_Token.mk 0 0 [] 0 0)) cS_Token hp1, idx_ok (d := (S_Token.mk 0 0 [] 0 0)) cS_Token hp2, ⟨trivial, (by subst hz1; rfl)⟩⟩) ?_
        refine T_cond z1 (by kernel_rfl) (fun hc => ?_) (fun hc => ?_)
        · have h := cond_tt hc h
          refine T_region [] [4] [] [(4, .d (.v (.bool false)))] [] 1 (by kernel_rfl) (trivial) ?_
          obtain hs := Option.some.inj h; subst hs
          have h := callE_esc hk1
          obtain hs := Option.some.inj h; subst hs
          refine T_ret fun a w hm => inBlock_ret (then_ret (then_ret (inBlock_ret (then_ret (then_ret (T_return (fr' := [(4, .d (.v (.bool false)))]) [4] (by kernel_rfl) [.keep [4]] (by kernel_rfl) (by kernel_rfl) (by kernel_rfl) (by show _ = _; kernel_rfl) (by exact trivial) a w hm))))))
        · have h := cond_ff hc h
          refine T_skip fun a w hm => inBlock_norm (then_norm (((?_ : T Tryd.prog e 26 _ _ _) a w hm)))
          refine T_region_end [] [0, 1, 12, 13] [] [(0, .d (.sl 5 (a0.map cS_Token))), (1, .d (.sl 5 (a1.map cS_Token))), (12, .d (.v (.int .i64 (a0.length : Int)))), (13, .d (.v (.int .i64 (IntKind.i64.wrap (v1 + (1 : Int))))))] [] 2 (by kernel_rfl) (trivial) fun a w hm => then_norm (⟨IntKind.i64.wrap (v1 + (1 : Int)), h, hm.co (cs := [.keep [0, 1, 12, 13]]) (by show _ = _; kernel_rfl)⟩)
      · have h := cond_ff hc h
        obtain hs := Option.some.inj h; subst hs
        refine T_exit fun a w hm => then_exit (then_exit (inBlock_exit (then_norm (⟨_, rfl, hm.co (cs := [.keep []]) (by show _ = _; kernel_rfl)⟩))))
    · skip
      refine fun a w hm => then_norm (((?_ : T Tryd.prog e 26 _ _ _) a w hm))
      refine T_region [] [4] [] [(4, .d (.v (.bool true)))] [] 1 (by kernel_rfl) (trivial) ?_
      obtain hs := Option.some.inj h; subst hs
      refine T_ret fun a w hm => T_return (fr' := [(4, .d (.v (.bool true)))]) [4] (by kernel_rfl) [.keep [4]] (by kernel_rfl) (by kernel_rfl) (by kernel_rfl) (by show _ = _; kernel_rfl) (by exact trivial) a w hm

theorem law3_TokenMatchesReference_ok {F : Nat} {a0 : List UInt8} {r : Bool} (h : law3_TokenMatchesReference F a0 = some r) : ACall Tryd.prog 12 [.d (.str a0)] [] (.d (.v (.bool r))) [] := by
  rw [law3_TokenMatchesReference] at h
  refine ACall.intro (N := 36) Tryd.func12 rfl rfl rfl rfl rfl fun e => ?_
  refine T_region [] [0] [] [(0, .d (.str a0))] [] 1 (by kernel_rfl) (trivial) ?_
  refine T_seqk ?_
  obtain ⟨y1, hy1, h⟩ := call_ok h
  refine T_region [(0, { res := .d (.v (.bool y1)) })] [0, 10] [] [(0, .d (.str a0)), (10, .d (.v (.bool (!y1))))] [(0, ACall Tryd.prog 42 [] [] (.d (.v (.bool y1))) [])] 1 (by kernel_rfl) (law3_tokenFact_ok hy1) ?_
  refine T_cond (!y1) (by kernel_rfl) (fun hc => ?_) (fun hc => ?_)
  · have h := cond_tt hc h
    refine T_region [] [2] [] [(2, .d (.v (.bool false)))] [] 1 (by kernel_rfl) (trivial) ?_
    obtain hs := Option.some.inj h; subst hs
    refine T_ret fun a w hm => then_ret (T_return (fr' := [(2, .d (.v (.bool false)))]) [2] (by kernel_rfl) [.keep [2]] (by kernel_rfl) (by kernel_rfl) (by kernel_rfl) (by show _ = _; kernel_rfl) (by exact trivial) a w hm)
  · have h := cond_ff hc h
    refine T_skip fun a w hm => then_norm (((?_ : T Tryd.prog e 36 _ _ _) a w hm))
    obtain ⟨y2, hy2, h⟩ := call_ok h
    refine T_region [(1, { res := .tup [.own 23 5 (y2.1.map cS_Token), .d (.v (.int .i64 y2.2.1)), .d (.v (.int .i64 y2.2.2))] })] [0, 3, 4, 5] [] [(0, .d (.str a0)), (3, .own 23 5 (y2.1.map cS_Token)), (4, .d (.v (.int .i64 y2.2.1))), (5, .d (.v (.int .i64 y2.2.2)))] [(1, ACall Tryd.prog 45 [.d (.str a0)] [] (.tup [.own 23 5 (y2.1.map cS_Token), .d (.v (.int .i64 y2.2.1)), .d (.v (.int .i64 y2.2.2))]) [])] 7 (by kernel_rfl) (token_Scan_ok hy2) ?_
    obtain ⟨y3, hy3, h⟩ := call_ok h
    refine T_region [(1, { res := .tup [.own 23 5 (y3.1.map cS_Token), .d (.v (.int .i64 y3.2.1)), .d (.v (.int .i64 y3.2.2))] })] [3, 4, 5, 6, 7, 8] [] [(3, .own 23 5 (y2.1.map cS_Token)), (4, .d (.v (.int .i64 y2.2.1))), (5, .d (.v (.int .i64 y2.2.2))), (6, .own 23 5 (y3.1.map cS_Token)), (7, .d (.v (.int .i64 y3.2.1))), (8, .d (.v (.int .i64 y3.2.2)))] [(1, ACall Tryd.prog 46 [.d (.str a0)] [] (.tup [.own 23 5 (y3.1.map cS_Token), .d (.v (.int .i64 y3.2.1)), .d (.v (.int .i64 y3.2.2))]) [])] 7 (by kernel_rfl) (ref3_Lexed_ok hy3) ?_
    obtain ⟨y4, hy4, h⟩ := call_ok h
    refine T_region [(11, { res := .d (.v (.bool y4)) })] [2] [] [(2, .d (.v (.bool (bif (bif (y2.2.1 == y3.2.1) then (y2.2.2 == y3.2.2) else false) then y4 else false))))] [(4, ((((y2.2.1 == y3.2.1) == true) && true) = true → True)), (0, ((((y2.2.1 == y3.2.1) == true) && true) = true → True)), (0, ((((y2.2.1 == y3.2.1) == true) && true) = true → True)), (2, ((((bif (y2.2.1 == y3.2.1) then (y2.2.2 == y3.2.2) else false) == true) && true) = true → True)), (0, ((((bif (y2.2.1 == y3.2.1) then (y2.2.2 == y3.2.2) else false) == true) && true) = true → True)), (0, ((((bif (y2.2.1 == y3.2.1) then (y2.2.2 == y3.2.2) else false) == true) && true) = true → ACall Tryd.prog 47 [.d (.sl 5 (y2.1.map cS_Token)), .d (.sl 5 (y3.1.map cS_Token))] [] (.d (.v (.bool y4))) []))] 2 (by kernel_rfl) (⟨(fun hg => trivial), (fun hg => trivial), (fun hg => trivial), (fun hg => trivial), (fun hg => trivial), (fun hg => slices_Equal_Token_ok (gcall_ok hg hy4))⟩) ?_
    obtain hs := Option.some.inj h; subst hs
    refine T_ret fun a w hm => T_return (fr' := [(2, .d (.v (.bool (bif (bif (y2.2.1 == y3.2.1) then (y2.2.2 == y3.2.2) else false) then y4 else false))))]) [2] (by kernel_rfl) [.keep [2]] (by kernel_rfl) (by kernel_rfl) (by kernel_rfl) (by show _ = _; kernel_rfl) (by exact trivial) a w hm

end Go.Vm.LexG
