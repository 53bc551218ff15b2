import Derived.Test.YtmaolabjdmhinaaDoorProg
import Derived.Test.YtmaolabjdmhinaaDoorTokGF
import Derived.Test.YtmaolabjdmhinaaDoorTokGB
namespace Go.Vm.TokG
open Go.Proofs
set_option maxRecDepth 20000
theorem mixed : Tryd.prog.follows .mixedOrders = true := by kernel_rfl
theorem token_letter_ok {F : Nat} {a0 : Int} {r : Bool} (h : token_letter F a0 = some r) : ACall Tryd.prog 87 [.d (.v (.int .u8 a0))] [] (.d (.v (.bool r))) [] := by
  rw [token_letter] at h
  refine ACall.intro (N := 17) Tryd.func87 rfl rfl rfl rfl rfl fun e => ?_
  refine T_region [] [0] [] [(0, .d (.v (.int .u8 a0)))] [] 1 (by kernel_rfl) (trivial) ?_
  obtain ⟨z1, hz1, h⟩ := lett_ok h
  refine T_region [(13, { rw := some (.d (.v (.bool z1))) })] [2] [] [(2, .d (.v (.bool z1)))] [(3, ((((decide ((97 : Int) ≤ a0)) == true) && true) = true → True)), (0, ((((decide ((97 : Int) ≤ a0)) == true) && true) = true → True)), (2, ((((bif (decide ((97 : Int) ≤ a0)) then (decide (a0 ≤ (122 : Int))) else false) == false) && true) = true → True)), (0, ((((bif (decide ((97 : Int) ≤ a0)) then (decide (a0 ≤ (122 : Int))) else false) == false) && true) = true → True)), (0, ((((bif (decide ((97 : Int) ≤ a0)) then (decide (a0 ≤ (122 : Int))) else false) == false) && true) = true → True)), (0, ((((decide ((65 : Int) ≤ a0)) == true) && (((bif (decide ((97 : Int) ≤ a0)) then (decide (a0 ≤ (122 : Int))) else false) == false) && true)) = true → True)), (0, ((((decide ((65 : Int) ≤ a0)) == true) && (((bif (decide ((97 : Int) ≤ a0)) then (decide (a0 ≤ (122 : Int))) else false) == false) && true)) = true → True)), (0, ((((bif (decide ((97 : Int) ≤ a0)) then (decide (a0 ≤ (122 : Int))) else false) == false) && true) = true → True)), (0, (True) ∧ AV.d (.v (.bool (bif (bif (decide ((97 : Int) ≤ a0)) then (decide (a0 ≤ (122 : Int))) else false) then true else (bif (decide ((65 : Int) ≤ a0)) then (decide (a0 ≤ (90 : Int))) else false)))) = .d (.v (.bool z1)))] 1 (by kernel_rfl) (⟨(fun hg => trivial), (fun hg => trivial), (fun hg => trivial), (fun hg => trivial), (fun hg => trivial), (fun hg => trivial), (fun hg => trivial), (fun hg => trivial), ⟨trivial, (by subst hz1; rfl)⟩⟩) ?_
  obtain hs := Option.some.inj h; subst hs
  refine T_ret fun a w hm => T_return (fr' := [(2, .d (.v (.bool z1)))]) [2] (by kernel_rfl) [.keep [2]] (by kernel_rfl) (by kernel_rfl) (by kernel_rfl) (by show _ = _; kernel_rfl) (by exact trivial) a w hm

theorem token_digit_ok {F : Nat} {a0 : Int} {r : Bool} (h : token_digit F a0 = some r) : ACall Tryd.prog 88 [.d (.v (.int .u8 a0))] [] (.d (.v (.bool r))) [] := by
  rw [token_digit] at h
  refine ACall.intro (N := 9) Tryd.func88 rfl rfl rfl rfl rfl fun e => ?_
  refine T_region [] [0] [] [(0, .d (.v (.int .u8 a0)))] [] 1 (by kernel_rfl) (trivial) ?_
  refine T_region [] [2] [] [(2, .d (.v (.bool (bif (decide ((48 : Int) ≤ a0)) then (decide (a0 ≤ (57 : Int))) else false))))] [(3, ((((decide ((48 : Int) ≤ a0)) == true) && true) = true → True)), (0, ((((decide ((48 : Int) ≤ a0)) == true) && true) = true → True))] 2 (by kernel_rfl) (⟨(fun hg => trivial), (fun hg => trivial)⟩) ?_
  obtain hs := Option.some.inj h; subst hs
  refine T_ret fun a w hm => T_return (fr' := [(2, .d (.v (.bool (bif (decide ((48 : Int) ≤ a0)) then (decide (a0 ≤ (57 : Int))) else false))))]) [2] (by kernel_rfl) [.keep [2]] (by kernel_rfl) (by kernel_rfl) (by kernel_rfl) (by show _ = _; kernel_rfl) (by exact trivial) a w hm

theorem token_limited_ok {F : Nat} {a0 : List UInt8} {a1 : Int} {r : (List UInt8) × Int} (h : token_limited F a0 a1 = some r) : ACall Tryd.prog 110 [.d (.str a0), .d (.v (.int .i64 a1))] [] (.tup [.d (.str r.1), .d (.v (.int .i64 r.2))]) [] := by
  rw [token_limited] at h
  refine ACall.intro (N := 11) Tryd.func110 rfl rfl rfl rfl rfl fun e => ?_
  refine T_region [] [0, 1] [] [(0, .d (.str a0)), (1, .d (.v (.int .i64 a1)))] [] 2 (by kernel_rfl) (trivial) ?_
  refine T_seqk ?_
  refine T_region [] [0, 9] [] [(0, .d (.str a0)), (9, .d (.v (.bool (decide ((a0.length : Int) > a1)))))] [] 4 (by kernel_rfl) (trivial) ?_
  refine T_cond (decide ((a0.length : Int) > a1)) (by kernel_rfl) (fun hc => ?_) (fun hc => ?_)
  · have h := cond_tt hc h
    refine T_region [] [4, 5] [] [(4, .d (.str [])), (5, .d (.v (.int .i64 (2 : Int))))] [] 2 (by kernel_rfl) (trivial) ?_
    obtain hs := Option.some.inj h; subst hs
    refine T_ret fun a w hm => then_ret (T_return (fr' := [(4, .d (.str [])), (5, .d (.v (.int .i64 (2 : Int))))]) [4, 5] (by kernel_rfl) [.keep [4, 5]] (by kernel_rfl) (by kernel_rfl) (by kernel_rfl) (by show _ = _; kernel_rfl) (by exact trivial) a w hm)
  · have h := cond_ff hc h
    refine T_skip fun a w hm => then_norm (((?_ : T Tryd.prog e 11 _ _ _) a w hm))
    refine T_region [] [4, 5] [] [(4, .d (.str a0)), (5, .d (.v (.int .i64 (0 : Int))))] [] 3 (by kernel_rfl) (trivial) ?_
    obtain hs := Option.some.inj h; subst hs
    refine T_ret fun a w hm => T_return (fr' := [(4, .d (.str a0)), (5, .d (.v (.int .i64 (0 : Int))))]) [4, 5] (by kernel_rfl) [.keep [4, 5]] (by kernel_rfl) (by kernel_rfl) (by kernel_rfl) (by show _ = _; kernel_rfl) (by exact trivial) a w hm

theorem token_word_ok {F : Nat} {a0 : List UInt8} {r : (List UInt8) × Int} (h : token_word F a0 = some r) : ACall Tryd.prog 84 [.d (.str a0)] [] (.tup [.d (.str r.1), .d (.v (.int .i64 r.2))]) [] := by
  rw [token_word] at h
  refine ACall.intro (N := 45) Tryd.func84 rfl rfl rfl rfl rfl fun e => ?_
  refine T_region [] [0] [] [(0, .d (.str a0))] [] 2 (by kernel_rfl) (trivial) ?_
  refine T_seqk ?_
  refine T_region [] [0, 7, 8] [] [(0, .d (.str a0)), (7, .d (.v (.int .i64 (a0.length : Int)))), (8, .d (.v (.int .i64 (0 : Int))))] [] 3 (by kernel_rfl) (trivial) ?_
  refine T_joinEt h (fun (p : Unit) => [(0, .d (.str a0))]) (fun s h hk1 => ?_) (fun s h => ?_)
  · refine T_co [.keep [0, 7, 8]] ((fun (p : Int) => [(0, .d (.str a0)), (7, .d (.v (.int .i64 (a0.length : Int)))), (8, .d (.v (.int .i64 p)))]) (0 : Int)) (by show _ = _; kernel_rfl) ?_
    refine T_block ?_
    refine T_loopF (ι := Int) (fun (p : Int) => [(0, .d (.str a0)), (7, .d (.v (.int .i64 (a0.length : Int)))), (8, .d (.v (.int .i64 p)))]) (fun n p => token_word_L0 F a0 n p = some s) (fun i hh => by simp [token_word_L0] at hh) (fun n v1 h => ?_) F (0 : Int) h
    have h : token_word_L0 F a0 (n + 1) v1 = some s := h
    rw [token_word_L0] at h
    refine T_region [] [0, 7, 8, 9] [] [(0, .d (.str a0)), (7, .d (.v (.int .i64 (a0.length : Int)))), (8, .d (.v (.int .i64 v1))), (9, .d (.v (.bool (decide (v1 < (a0.length : Int))))))] [] 1 (by kernel_rfl) (trivial) ?_
    refine T_seqk ?_
    refine T_cond (decide (v1 < (a0.length : Int))) (by kernel_rfl) (fun hc => ?_) (fun hc => ?_)
    · have h := cond_tt hc h
      refine T_skip fun a w hm => then_norm (((?_ : T Tryd.prog e 45 _ _ _) a w hm))
      refine T_seqk ?_
      refine T_block ?_
      refine T_region [] [0, 4, 7, 8] [] [(0, .d (.str a0)), (4, .d (.v (.int .i64 v1))), (7, .d (.v (.int .i64 (a0.length : Int)))), (8, .d (.v (.int .i64 v1)))] [] 2 (by kernel_rfl) (trivial) ?_
      obtain ⟨hp1, h⟩ := chk_ok h
      refine T_region [] [0, 4, 5, 7, 8] [] [(0, .d (.str a0)), (4, .d (.v (.int .i64 v1))), (5, .d (.v (.int .u8 ((a0.getD v1.toNat 0).toNat : Int)))), (7, .d (.v (.int .i64 (a0.length : Int)))), (8, .d (.v (.int .i64 v1)))] [(2, 0 ≤ v1 ∧ v1 < a0.length)] 1 (by kernel_rfl) (hp1) ?_
      obtain ⟨y1, hy1, h⟩ := call_ok h
      obtain ⟨y2, hy2, h⟩ := call_ok h
      obtain ⟨z1, hz1, h⟩ := lett_ok h
      obtain ⟨z2, hz2, h⟩ := lett_ok h
      refine T_region [(1, { res := .d (.v (.bool y1)) }), (8, { res := .d (.v (.bool y2)) }), (15, { rw := some (.d (.v (.bool z1))) }), (23, { rw := some (.d (.v (.bool z2))) })] [0, 7, 8, 37] [] [(0, .d (.str a0)), (7, .d (.v (.int .i64 (a0.length : Int)))), (8, .d (.v (.int .i64 v1))), (37, .d (.v (.bool z2)))] [(1, ACall Tryd.prog 87 [.d (.v (.int .u8 ((a0.getD v1.toNat 0).toNat : Int)))] [] (.d (.v (.bool y1))) []), (2, ((((!y1) == true) && true) = true → True)), (0, ((((!y1) == true) && true) = true → True)), (0, ((((!y1) == true) && true) = true → True)), (0, ((((v1 == (0 : Int)) == false) && (((!y1) == true) && true)) = true → True)), (0, ((((v1 == (0 : Int)) == false) && (((!y1) == true) && true)) = true → ACall Tryd.prog 88 [.d (.v (.int .u8 ((a0.getD v1.toNat 0).toNat : Int)))] [] (.d (.v (.bool y2))) [])), (0, ((((v1 == (0 : Int)) == false) && (((!y1) == true) && true)) = true → True)), (0, ((((!y1) == true) && true) = true → True)), (2, ((((bif (!y1) then (bif (v1 == (0 : Int)) then true else (!y2)) else false) == true) && true) = true → True)), (0, ((((bif (!y1) then (bif (v1 == (0 : Int)) then true else (!y2)) else false) == true) && true) = true → True)), (0, (True) ∧ AV.d (.v (.bool (bif (bif (!y1) then (bif (v1 == (0 : Int)) then true else (!y2)) else false) then (((a0.getD v1.toNat 0).toNat : Int) != (42 : Int)) else false))) = .d (.v (.bool z1))), (1, (((z1 == true) && true) = true → True)), (0, (((z1 == true) && true) = true → True)), (2, ((((bif z1 then (((a0.getD v1.toNat 0).toNat : Int) != (95 : Int)) else false) == true) && true) = true → True)), (0, ((((bif z1 then (((a0.getD v1.toNat 0).toNat : Int) != (95 : Int)) else false) == true) && true) = true → True)), (0, (True) ∧ AV.d (.v (.bool (bif (bif z1 then (((a0.getD v1.toNat 0).toNat : Int) != (95 : Int)) else false) then (((a0.getD v1.toNat 0).toNat : Int) != (46 : Int)) else false))) = .d (.v (.bool z2)))] 0 (by kernel_rfl) (⟨token_letter_ok hy1, (fun hg => trivial), (fun hg => trivial), (fun hg => trivial), (fun hg => trivial), (fun hg => token_digit_ok (gcall_ok hg hy2)), (fun hg => trivial), (fun hg => trivial), (fun hg => trivial), (fun hg => trivial), ⟨trivial, (by subst hz1; rfl)⟩, (fun hg => trivial), (fun hg => trivial), (fun hg => trivial), (fun hg => trivial), ⟨trivial, (by subst hz2; rfl)⟩⟩) ?_
      refine T_cond z2 (by kernel_rfl) (fun hc => ?_) (fun hc => ?_)
      · have h := cond_tt hc h
        refine T_region [] [2, 3] [] [(2, .d (.str [])), (3, .d (.v (.int .i64 (5 : Int))))] [] 2 (by kernel_rfl) (trivial) ?_
        obtain hs := Option.some.inj h; subst hs
        have h := callE_esc hk1
        obtain hs := Option.some.inj h; subst hs
        refine T_ret fun a w hm => inBlock_ret (then_ret (then_ret (inBlock_ret (then_ret (then_ret (T_return (fr' := [(2, .d (.str [])), (3, .d (.v (.int .i64 (5 : Int))))]) [2, 3] (by kernel_rfl) [.keep [2, 3]] (by kernel_rfl) (by kernel_rfl) (by kernel_rfl) (by show _ = _; kernel_rfl) (by exact trivial) a w hm))))))
      · have h := cond_ff hc h
        refine T_skip fun a w hm => inBlock_norm (then_norm (((?_ : T Tryd.prog e 45 _ _ _) a w hm)))
        refine T_region_end [] [0, 7, 8] [] [(0, .d (.str a0)), (7, .d (.v (.int .i64 (a0.length : Int)))), (8, .d (.v (.int .i64 (IntKind.i64.wrap (v1 + (1 : Int))))))] [] 2 (by kernel_rfl) (trivial) fun a w hm => then_norm (⟨IntKind.i64.wrap (v1 + (1 : Int)), h, hm.co (cs := [.keep [0, 7, 8]]) (by show _ = _; kernel_rfl)⟩)
    · have h := cond_ff hc h
      obtain hs := Option.some.inj h; subst hs
      refine T_exit fun a w hm => then_exit (then_exit (inBlock_exit (then_norm (⟨_, rfl, hm.co (cs := [.keep [0]]) (by show _ = _; kernel_rfl)⟩))))
  · skip
    refine fun a w hm => then_norm (((?_ : T Tryd.prog e 45 _ _ _) a w hm))
    refine T_seqk ?_
    refine T_region [] [0, 40] [] [(0, .d (.str a0)), (40, .d (.v (.bool (a0 == []))))] [] 2 (by kernel_rfl) (trivial) ?_
    refine T_cond (a0 == []) (by kernel_rfl) (fun hc => ?_) (fun hc => ?_)
    · have h := cond_tt hc h
      refine T_region [] [2, 3] [] [(2, .d (.str [])), (3, .d (.v (.int .i64 (5 : Int))))] [] 2 (by kernel_rfl) (trivial) ?_
      obtain hs := Option.some.inj h; subst hs
      refine T_ret fun a w hm => then_ret (T_return (fr' := [(2, .d (.str [])), (3, .d (.v (.int .i64 (5 : Int))))]) [2, 3] (by kernel_rfl) [.keep [2, 3]] (by kernel_rfl) (by kernel_rfl) (by kernel_rfl) (by show _ = _; kernel_rfl) (by exact trivial) a w hm)
    · have h := cond_ff hc h
      refine T_skip fun a w hm => then_norm (((?_ : T Tryd.prog e 45 _ _ _) a w hm))
      obtain ⟨y3, hy3, h⟩ := call_ok h
      refine T_region [(1, { res := .tup [.d (.str y3.1), .d (.v (.int .i64 y3.2))] })] [2, 3] [] [(2, .d (.str y3.1)), (3, .d (.v (.int .i64 y3.2)))] [(1, ACall Tryd.prog 110 [.d (.str a0), .d (.v (.int .i64 (31 : Int)))] [] (.tup [.d (.str y3.1), .d (.v (.int .i64 y3.2))]) [])] 4 (by kernel_rfl) (token_limited_ok hy3) ?_
      obtain hs := Option.some.inj h; subst hs
      refine T_ret fun a w hm => T_return (fr' := [(2, .d (.str y3.1)), (3, .d (.v (.int .i64 y3.2)))]) [2, 3] (by kernel_rfl) [.keep [2, 3]] (by kernel_rfl) (by kernel_rfl) (by kernel_rfl) (by show _ = _; kernel_rfl) (by exact trivial) a w hm

theorem token_bad_ok {F : Nat} {a0 : Int} {r : Int} (h : token_bad F a0 = some r) : ACall Tryd.prog 85 [.d (.v (.int .i64 a0))] [] (.d (.v (.int .i64 r))) [] := by
  rw [token_bad] at h
  refine ACall.intro (N := 6) Tryd.func85 rfl rfl rfl rfl rfl fun e => ?_
  refine T_region [] [0] [] [(0, .d (.v (.int .i64 a0)))] [] 1 (by kernel_rfl) (trivial) ?_
  refine T_seqk ?_
  refine T_region [] [0, 4] [] [(0, .d (.v (.int .i64 a0))), (4, .d (.v (.bool (a0 == (5 : Int)))))] [] 2 (by kernel_rfl) (trivial) ?_
  refine T_cond (a0 == (5 : Int)) (by kernel_rfl) (fun hc => ?_) (fun hc => ?_)
  · have h := cond_tt hc h
    refine T_region [] [2] [] [(2, .d (.v (.int .i64 (4 : Int))))] [] 1 (by kernel_rfl) (trivial) ?_
    obtain hs := Option.some.inj h; subst hs
    refine T_ret fun a w hm => then_ret (T_return (fr' := [(2, .d (.v (.int .i64 (4 : Int))))]) [2] (by kernel_rfl) [.keep [2]] (by kernel_rfl) (by kernel_rfl) (by kernel_rfl) (by show _ = _; kernel_rfl) (by exact trivial) a w hm)
  · have h := cond_ff hc h
    refine T_skip fun a w hm => then_norm (((?_ : T Tryd.prog e 6 _ _ _) a w hm))
    refine T_region [] [2] [] [(2, .d (.v (.int .i64 a0)))] [] 2 (by kernel_rfl) (trivial) ?_
    obtain hs := Option.some.inj h; subst hs
    refine T_ret fun a w hm => T_return (fr' := [(2, .d (.v (.int .i64 a0)))]) [2] (by kernel_rfl) [.keep [2]] (by kernel_rfl) (by kernel_rfl) (by kernel_rfl) (by show _ = _; kernel_rfl) (by exact trivial) a w hm

theorem token_check_ok {F : Nat} {a0 : S_Token} {r : Int} (h : token_check F a0 = some r) : ACall Tryd.prog 48 [.agg (cS_Token a0)] [] (.d (.v (.int .i64 r))) [] := by
  rw [token_check] at h
  refine ACall.intro (N := 128) Tryd.func48 rfl rfl rfl rfl rfl fun e => ?_
  refine T_region [] [1] [] [(1, .box [.d (.v (.int .i64 a0.f0)), .d (.v (.int .i64 a0.f1)), .d (.str a0.f2), .d (.v (.int .i64 a0.f3)), .d (.v (.int .i64 a0.f4))])] [] 2 (by kernel_rfl) (trivial) ?_
  refine T_region [] [1, 3] [] [(1, .box [.d (.v (.int .i64 a0.f0)), .d (.v (.int .i64 a0.f1)), .d (.str a0.f2), .d (.v (.int .i64 a0.f3)), .d (.v (.int .i64 a0.f4))]), (3, .d (.v (.bool (bif (a0.f0 == (1 : Int)) then true else (a0.f0 == (4 : Int))))))] [(4, ((((a0.f0 == (1 : Int)) == false) && true) = true → True)), (0, ((((a0.f0 == (1 : Int)) == false) && true) = true → True)), (0, ((((a0.f0 == (1 : Int)) == false) && true) = true → True))] 2 (by kernel_rfl) (⟨(fun hg => trivial), (fun hg => trivial), (fun hg => trivial)⟩) ?_
  obtain ⟨z1, hz1, h⟩ := lett_ok h
  refine T_region [(12, { rw := some (.d (.v (.bool z1))) })] [1, 3, 4] [] [(1, .box [.d (.v (.int .i64 a0.f0)), .d (.v (.int .i64 a0.f1)), .d (.str a0.f2), .d (.v (.int .i64 a0.f3)), .d (.v (.int .i64 a0.f4))]), (3, .d (.v (.bool (bif (a0.f0 == (1 : Int)) then true else (a0.f0 == (4 : Int)))))), (4, .d (.v (.bool z1)))] [(4, ((((a0.f0 == (2 : Int)) == false) && true) = true → True)), (0, ((((a0.f0 == (2 : Int)) == false) && true) = true → True)), (0, ((((a0.f0 == (2 : Int)) == false) && true) = true → True)), (2, ((((bif (a0.f0 == (2 : Int)) then true else (a0.f0 == (3 : Int))) == false) && true) = true → True)), (0, ((((bif (a0.f0 == (2 : Int)) then true else (a0.f0 == (3 : Int))) == false) && true) = true → True)), (0, ((((bif (a0.f0 == (2 : Int)) then true else (a0.f0 == (3 : Int))) == false) && true) = true → True)), (0, (True) ∧ AV.d (.v (.bool (bif (bif (a0.f0 == (2 : Int)) then true else (a0.f0 == (3 : Int))) then true else (a0.f0 == (5 : Int))))) = .d (.v (.bool z1)))] 1 (by kernel_rfl) (⟨(fun hg => trivial), (fun hg => trivial), (fun hg => trivial), (fun hg => trivial), (fun hg => trivial), (fun hg => trivial), ⟨trivial, (by subst hz1; rfl)⟩⟩) ?_
  refine T_joinE h (fun (p : Unit) => []) (fun s h hk1 => ?_) (fun s h => ?_)
  · refine T_block ?_
    refine T_region [] [1, 3, 4, 28] [] [(1, .box [.d (.v (.int .i64 a0.f0)), .d (.v (.int .i64 a0.f1)), .d (.str a0.f2), .d (.v (.int .i64 a0.f3)), .d (.v (.int .i64 a0.f4))]), (3, .d (.v (.bool (bif (a0.f0 == (1 : Int)) then true else (a0.f0 == (4 : Int)))))), (4, .d (.v (.bool z1))), (28, .d (.v (.bool (bif (decide (a0.f0 < (1 : Int))) then true else (decide (a0.f0 > (9 : Int)))))))] [(4, ((((decide (a0.f0 < (1 : Int))) == false) && true) = true → True)), (0, ((((decide (a0.f0 < (1 : Int))) == false) && true) = true → True)), (0, ((((decide (a0.f0 < (1 : Int))) == false) && true) = true → True))] 2 (by kernel_rfl) (⟨(fun hg => trivial), (fun hg => trivial), (fun hg => trivial)⟩) ?_
    refine T_cond (bif (decide (a0.f0 < (1 : Int))) then true else (decide (a0.f0 > (9 : Int)))) (by kernel_rfl) (fun hc => ?_) (fun hc => ?_)
    · have h := cond_tt hc h
      refine T_region [] [2] [] [(2, .d (.v (.int .i64 (14 : Int))))] [] 1 (by kernel_rfl) (trivial) ?_
      obtain hs := Option.some.inj h; subst hs
      have h := callE_esc hk1
      obtain hs := Option.some.inj h; subst hs
      refine T_ret fun a w hm => inBlock_ret (then_ret (T_return (fr' := [(2, .d (.v (.int .i64 (14 : Int))))]) [2] (by kernel_rfl) [.keep [2]] (by kernel_rfl) (by kernel_rfl) (by kernel_rfl) (by show _ = _; kernel_rfl) (by exact trivial) a w hm))
    · have h := cond_ff hc h
      refine T_joinc h (fun (p : Bool) => [(1, .box [.d (.v (.int .i64 a0.f0)), .d (.v (.int .i64 a0.f1)), .d (.str a0.f2), .d (.v (.int .i64 a0.f3)), .d (.v (.int .i64 a0.f4))]), (37, .d (.v (.bool p)))]) (fun s h => ?_) (fun v1 h => ?_)
      · obtain ⟨z2, hz2, h⟩ := lett_ok h
        refine T_region [(6, { rw := some (.d (.v (.bool z2))) })] [1, 4, 37] [] [(1, .box [.d (.v (.int .i64 a0.f0)), .d (.v (.int .i64 a0.f1)), .d (.str a0.f2), .d (.v (.int .i64 a0.f3)), .d (.v (.int .i64 a0.f4))]), (4, .d (.v (.bool z1))), (37, .d (.v (.bool z2)))] [(4, ((((a0.f1 != (0 : Int)) == true) && true) = true → True)), (0, ((((a0.f1 != (0 : Int)) == true) && true) = true → True)), (0, (True) ∧ AV.d (.v (.bool (bif (a0.f1 != (0 : Int)) then (!(bif (a0.f0 == (1 : Int)) then true else (a0.f0 == (4 : Int)))) else false))) = .d (.v (.bool z2)))] 1 (by kernel_rfl) (⟨(fun hg => trivial), (fun hg => trivial), ⟨trivial, (by subst hz2; rfl)⟩⟩) ?_
        refine T_cond z2 (by kernel_rfl) (fun hc => ?_) (fun hc => ?_)
        · have h := cond_tt hc h
          obtain hs := Option.some.inj h; subst hs
          refine T_skip fun a w hm => then_norm (hm.co (cs := [.keep [1, 37]]) (by show _ = _; kernel_rfl))
        · have h := cond_ff hc h
          obtain hs := Option.some.inj h; subst hs
          refine T_region_end [] [1, 37] [] [(1, .box [.d (.v (.int .i64 a0.f0)), .d (.v (.int .i64 a0.f1)), .d (.str a0.f2), .d (.v (.int .i64 a0.f3)), .d (.v (.int .i64 a0.f4))]), (37, .d (.v (.bool (bif (!(a0.f2 == [])) then (!z1) else false))))] [(4, ((((!(a0.f2 == [])) == true) && true) = true → True)), (0, ((((!(a0.f2 == [])) == true) && true) = true → True))] 2 (by kernel_rfl) (⟨(fun hg => trivial), (fun hg => trivial)⟩) fun a w hm => then_norm (hm.co (cs := [.keep [1, 37]]) (by show _ = _; kernel_rfl))
      · skip
        refine T_cond v1 (by kernel_rfl) (fun hc => ?_) (fun hc => ?_)
        · have h := cond_tt hc h
          refine T_region [] [2] [] [(2, .d (.v (.int .i64 (4 : Int))))] [] 1 (by kernel_rfl) (trivial) ?_
          obtain hs := Option.some.inj h; subst hs
          have h := callE_esc hk1
          obtain hs := Option.some.inj h; subst hs
          refine T_ret fun a w hm => inBlock_ret (then_ret (T_return (fr' := [(2, .d (.v (.int .i64 (4 : Int))))]) [2] (by kernel_rfl) [.keep [2]] (by kernel_rfl) (by kernel_rfl) (by kernel_rfl) (by show _ = _; kernel_rfl) (by exact trivial) a w hm))
        · have h := cond_ff hc h
          obtain ⟨z3, hz3, h⟩ := lett_ok h
          refine T_region [(10, { res := .d (.v (.int .i64 (Lib.indexByte a0.f2 (0 : Int).toNat.toUInt8))) }), (12, { rw := some (.d (.v (.bool z3))) })] [1, 52] [] [(1, .box [.d (.v (.int .i64 a0.f0)), .d (.v (.int .i64 a0.f1)), .d (.str a0.f2), .d (.v (.int .i64 a0.f3)), .d (.v (.int .i64 a0.f4))]), (52, .d (.v (.bool (bif (a0.f0 == (2 : Int)) then z3 else false))))] [(4, ((((a0.f0 == (2 : Int)) == true) && true) = true → True)), (0, ((((a0.f0 == (2 : Int)) == true) && true) = true → True)), (0, ((((a0.f0 == (2 : Int)) == true) && true) = true → True)), (0, ((((a0.f0 == (2 : Int)) == true) && true) = true → True)), (0, ((((a0.f2 == []) == false) && (((a0.f0 == (2 : Int)) == true) && true)) = true → True)), (0, ((((a0.f2 == []) == false) && (((a0.f0 == (2 : Int)) == true) && true)) = true → True)), (0, ((((a0.f2 == []) == false) && (((a0.f0 == (2 : Int)) == true) && true)) = true → ACall Tryd.prog 83 [.d (.str a0.f2), .d (.v (.int .u8 (0 : Int)))] [] (.d (.v (.int .i64 (Lib.indexByte a0.f2 (0 : Int).toNat.toUInt8)))) [])), (0, ((((a0.f2 == []) == false) && (((a0.f0 == (2 : Int)) == true) && true)) = true → True)), (0, ((((a0.f0 == (2 : Int)) == true) && true) = true → (True) ∧ AV.d (.v (.bool (bif (a0.f2 == []) then true else (decide ((Lib.indexByte a0.f2 (0 : Int).toNat.toUInt8) ≥ (0 : Int)))))) = .d (.v (.bool z3))))] 2 (by kernel_rfl) (⟨(fun hg => trivial), (fun hg => trivial), (fun hg => trivial), (fun hg => trivial), (fun hg => trivial), (fun hg => trivial), (fun hg => b_IndexByte_83), (fun hg => trivial), (fun hg => ⟨trivial, (by subst hz3; rfl)⟩)⟩) ?_
          refine T_cond (bif (a0.f0 == (2 : Int)) then z3 else false) (by kernel_rfl) (fun hc => ?_) (fun hc => ?_)
          · have h := cond_tt hc h
            refine T_region [] [2] [] [(2, .d (.v (.int .i64 (4 : Int))))] [] 1 (by kernel_rfl) (trivial) ?_
            obtain hs := Option.some.inj h; subst hs
            have h := callE_esc hk1
            obtain hs := Option.some.inj h; subst hs
            refine T_ret fun a w hm => inBlock_ret (then_ret (T_return (fr' := [(2, .d (.v (.int .i64 (4 : Int))))]) [2] (by kernel_rfl) [.keep [2]] (by kernel_rfl) (by kernel_rfl) (by kernel_rfl) (by show _ = _; kernel_rfl) (by exact trivial) a w hm))
          · have h := cond_ff hc h
            obtain ⟨z4, hz4, h⟩ := lett_ok h
            refine T_region [(12, { rw := some (.d (.v (.bool z4))) })] [1, 67] [] [(1, .box [.d (.v (.int .i64 a0.f0)), .d (.v (.int .i64 a0.f1)), .d (.str a0.f2), .d (.v (.int .i64 a0.f3)), .d (.v (.int .i64 a0.f4))]), (67, .d (.v (.bool z4)))] [(4, ((((a0.f0 == (1 : Int)) == true) && true) = true → True)), (0, ((((a0.f0 == (1 : Int)) == true) && true) = true → True)), (0, ((((a0.f0 == (1 : Int)) == true) && true) = true → True)), (0, ((((a0.f0 == (1 : Int)) == true) && true) = true → True)), (0, ((((decide (a0.f1 < (-2147483647 : Int))) == false) && (((a0.f0 == (1 : Int)) == true) && true)) = true → True)), (0, ((((decide (a0.f1 < (-2147483647 : Int))) == false) && (((a0.f0 == (1 : Int)) == true) && true)) = true → True)), (0, ((((decide (a0.f1 < (-2147483647 : Int))) == false) && (((a0.f0 == (1 : Int)) == true) && true)) = true → True)), (0, ((((a0.f0 == (1 : Int)) == true) && true) = true → True)), (0, (True) ∧ AV.d (.v (.bool (bif (a0.f0 == (1 : Int)) then (bif (decide (a0.f1 < (-2147483647 : Int))) then true else (decide (a0.f1 > (2147483647 : Int)))) else false))) = .d (.v (.bool z4)))] 1 (by kernel_rfl) (⟨(fun hg => trivial), (fun hg => trivial), (fun hg => trivial), (fun hg => trivial), (fun hg => trivial), (fun hg => trivial), (fun hg => trivial), (fun hg => trivial), ⟨trivial, (by subst hz4; rfl)⟩⟩) ?_
            refine T_cond z4 (by kernel_rfl) (fun hc => ?_) (fun hc => ?_)
            · have h := cond_tt hc h
              refine T_region [] [2] [] [(2, .d (.v (.int .i64 (3 : Int))))] [] 1 (by kernel_rfl) (trivial) ?_
              obtain hs := Option.some.inj h; subst hs
              have h := callE_esc hk1
              obtain hs := Option.some.inj h; subst hs
              refine T_ret fun a w hm => inBlock_ret (then_ret (T_return (fr' := [(2, .d (.v (.int .i64 (3 : Int))))]) [2] (by kernel_rfl) [.keep [2]] (by kernel_rfl) (by kernel_rfl) (by kernel_rfl) (by show _ = _; kernel_rfl) (by exact trivial) a w hm))
            · have h := cond_ff hc h
              obtain ⟨z5, hz5, h⟩ := lett_ok h
              refine T_region [(12, { rw := some (.d (.v (.bool z5))) })] [1, 81] [] [(1, .box [.d (.v (.int .i64 a0.f0)), .d (.v (.int .i64 a0.f1)), .d (.str a0.f2), .d (.v (.int .i64 a0.f3)), .d (.v (.int .i64 a0.f4))]), (81, .d (.v (.bool z5)))] [(4, ((((a0.f0 == (4 : Int)) == true) && true) = true → True)), (0, ((((a0.f0 == (4 : Int)) == true) && true) = true → True)), (0, ((((a0.f0 == (4 : Int)) == true) && true) = true → True)), (0, ((((a0.f0 == (4 : Int)) == true) && true) = true → True)), (0, ((((decide (a0.f1 < (1 : Int))) == false) && (((a0.f0 == (4 : Int)) == true) && true)) = true → True)), (0, ((((decide (a0.f1 < (1 : Int))) == false) && (((a0.f0 == (4 : Int)) == true) && true)) = true → True)), (0, ((((decide (a0.f1 < (1 : Int))) == false) && (((a0.f0 == (4 : Int)) == true) && true)) = true → True)), (0, ((((a0.f0 == (4 : Int)) == true) && true) = true → True)), (0, (True) ∧ AV.d (.v (.bool (bif (a0.f0 == (4 : Int)) then (bif (decide (a0.f1 < (1 : Int))) then true else (decide (a0.f1 > (255 : Int)))) else false))) = .d (.v (.bool z5)))] 1 (by kernel_rfl) (⟨(fun hg => trivial), (fun hg => trivial), (fun hg => trivial), (fun hg => trivial), (fun hg => trivial), (fun hg => trivial), (fun hg => trivial), (fun hg => trivial), ⟨trivial, (by subst hz5; rfl)⟩⟩) ?_
              refine T_cond z5 (by kernel_rfl) (fun hc => ?_) (fun hc => ?_)
              · have h := cond_tt hc h
                refine T_region [] [2] [] [(2, .d (.v (.int .i64 (3 : Int))))] [] 1 (by kernel_rfl) (trivial) ?_
                obtain hs := Option.some.inj h; subst hs
                have h := callE_esc hk1
                obtain hs := Option.some.inj h; subst hs
                refine T_ret fun a w hm => inBlock_ret (then_ret (T_return (fr' := [(2, .d (.v (.int .i64 (3 : Int))))]) [2] (by kernel_rfl) [.keep [2]] (by kernel_rfl) (by kernel_rfl) (by kernel_rfl) (by show _ = _; kernel_rfl) (by exact trivial) a w hm))
              · have h := cond_ff hc h
                refine T_joinc h (fun (p : Bool) => [(1, .box [.d (.v (.int .i64 a0.f0)), .d (.v (.int .i64 a0.f1)), .d (.str a0.f2), .d (.v (.int .i64 a0.f3)), .d (.v (.int .i64 a0.f4))]), (95, .d (.v (.bool p)))]) (fun s h => ?_) (fun v2 h => ?_)
                · refine T_region [] [1, 95] [] [(1, .box [.d (.v (.int .i64 a0.f0)), .d (.v (.int .i64 a0.f1)), .d (.str a0.f2), .d (.v (.int .i64 a0.f3)), .d (.v (.int .i64 a0.f4))]), (95, .d (.v (.bool (bif (a0.f0 == (2 : Int)) then (decide ((a0.f2.length : Int) > (31 : Int))) else false))))] [(4, ((((a0.f0 == (2 : Int)) == true) && true) = true → True)), (0, ((((a0.f0 == (2 : Int)) == true) && true) = true → True)), (0, ((((a0.f0 == (2 : Int)) == true) && true) = true → True)), (0, ((((a0.f0 == (2 : Int)) == true) && true) = true → True))] 2 (by kernel_rfl) (⟨(fun hg => trivial), (fun hg => trivial), (fun hg => trivial), (fun hg => trivial)⟩) ?_
                  refine T_cond (bif (a0.f0 == (2 : Int)) then (decide ((a0.f2.length : Int) > (31 : Int))) else false) (by kernel_rfl) (fun hc => ?_) (fun hc => ?_)
                  · have h := cond_tt hc h
                    obtain hs := Option.some.inj h; subst hs
                    refine T_skip fun a w hm => then_norm (hm.co (cs := [.keep [1, 95]]) (by show _ = _; kernel_rfl))
                  · have h := cond_ff hc h
                    obtain hs := Option.some.inj h; subst hs
                    refine T_region_end [] [1, 95] [] [(1, .box [.d (.v (.int .i64 a0.f0)), .d (.v (.int .i64 a0.f1)), .d (.str a0.f2), .d (.v (.int .i64 a0.f3)), .d (.v (.int .i64 a0.f4))]), (95, .d (.v (.bool (bif (decide ((a0.f2.length : Int) > (1024 : Int))) then (a0.f0 == (3 : Int)) else false))))] [(5, ((((decide ((a0.f2.length : Int) > (1024 : Int))) == true) && true) = true → True)), (0, ((((decide ((a0.f2.length : Int) > (1024 : Int))) == true) && true) = true → True)), (0, ((((decide ((a0.f2.length : Int) > (1024 : Int))) == true) && true) = true → True))] 2 (by kernel_rfl) (⟨(fun hg => trivial), (fun hg => trivial), (fun hg => trivial)⟩) fun a w hm => then_norm (hm.co (cs := [.keep [1, 95]]) (by show _ = _; kernel_rfl))
                · skip
                  refine T_cond v2 (by kernel_rfl) (fun hc => ?_) (fun hc => ?_)
                  · have h := cond_tt hc h
                    refine T_region [] [2] [] [(2, .d (.v (.int .i64 (2 : Int))))] [] 1 (by kernel_rfl) (trivial) ?_
                    obtain hs := Option.some.inj h; subst hs
                    have h := callE_esc hk1
                    obtain hs := Option.some.inj h; subst hs
                    refine T_ret fun a w hm => inBlock_ret (then_ret (T_return (fr' := [(2, .d (.v (.int .i64 (2 : Int))))]) [2] (by kernel_rfl) [.keep [2]] (by kernel_rfl) (by kernel_rfl) (by kernel_rfl) (by show _ = _; kernel_rfl) (by exact trivial) a w hm))
                  · have h := cond_ff hc h
                    refine T_region [] [1, 114] [] [(1, .box [.d (.v (.int .i64 a0.f0)), .d (.v (.int .i64 a0.f1)), .d (.str a0.f2), .d (.v (.int .i64 a0.f3)), .d (.v (.int .i64 a0.f4))]), (114, .d (.v (.bool (a0.f0 == (5 : Int)))))] [] 4 (by kernel_rfl) (trivial) ?_
                    refine T_cond (a0.f0 == (5 : Int)) (by kernel_rfl) (fun hc => ?_) (fun hc => ?_)
                    · have h := cond_tt hc h
                      obtain ⟨y1, hy1, h⟩ := call_ok h
                      refine T_region [(2, { res := .tup [.d (.str y1.1), .d (.v (.int .i64 y1.2))] })] [6] [] [(6, .d (.v (.int .i64 y1.2)))] [(2, ACall Tryd.prog 84 [.d (.str a0.f2)] [] (.tup [.d (.str y1.1), .d (.v (.int .i64 y1.2))]) [])] 5 (by kernel_rfl) (token_word_ok hy1) ?_
                      refine T_region [] [6, 125] [] [(6, .d (.v (.int .i64 y1.2))), (125, .d (.v (.bool (y1.2 != (0 : Int)))))] [] 2 (by kernel_rfl) (trivial) ?_
                      refine T_cond (y1.2 != (0 : Int)) (by kernel_rfl) (fun hc => ?_) (fun hc => ?_)
                      · have h := cond_tt hc h
                        obtain ⟨y2, hy2, h⟩ := call_ok h
                        refine T_region [(1, { res := .d (.v (.int .i64 y2)) })] [2] [] [(2, .d (.v (.int .i64 y2)))] [(1, ACall Tryd.prog 85 [.d (.v (.int .i64 y1.2))] [] (.d (.v (.int .i64 y2))) [])] 1 (by kernel_rfl) (token_bad_ok hy2) ?_
                        obtain hs := Option.some.inj h; subst hs
                        have h := callE_esc hk1
                        obtain hs := Option.some.inj h; subst hs
                        refine T_ret fun a w hm => inBlock_ret (then_ret (T_return (fr' := [(2, .d (.v (.int .i64 y2)))]) [2] (by kernel_rfl) [.keep [2]] (by kernel_rfl) (by kernel_rfl) (by kernel_rfl) (by show _ = _; kernel_rfl) (by exact trivial) a w hm))
                      · have h := cond_ff hc h
                        obtain hs := Option.some.inj h; subst hs
                        refine T_skip fun a w hm => inBlock_norm (then_norm (⟨_, rfl, hm.co (cs := [.keep []]) (by show _ = _; kernel_rfl)⟩))
                    · have h := cond_ff hc h
                      obtain hs := Option.some.inj h; subst hs
                      refine T_skip fun a w hm => inBlock_norm (then_norm (⟨_, rfl, hm.co (cs := [.keep []]) (by show _ = _; kernel_rfl)⟩))
  · skip
    refine T_region [] [2] [] [(2, .d (.v (.int .i64 (0 : Int))))] [] 1 (by kernel_rfl) (trivial) ?_
    obtain hs := Option.some.inj h; subst hs
    refine T_ret fun a w hm => T_return (fr' := [(2, .d (.v (.int .i64 (0 : Int))))]) [2] (by kernel_rfl) [.keep [2]] (by kernel_rfl) (by kernel_rfl) (by kernel_rfl) (by show _ = _; kernel_rfl) (by exact trivial) a w hm

theorem strings_Builder_WriteByte_ok {F : Nat} {a0 : Int} {c1 : List UInt8} {r : Unit × (List UInt8)} (h : strings_Builder_WriteByte F a0 c1 = some r) : ACall Tryd.prog 89 [.bp 1000000 0, .d (.v (.int .u8 a0))] [.box [.slf 0 89, .own 5 1 (c1.map cU)]] (.d (.v .nilIface)) [.box [.slf 0 89, .own 5 1 (r.2.map cU)]] := by
  rw [strings_Builder_WriteByte] at h
  refine ACall.intro (N := 17) Tryd.func89 rfl rfl rfl rfl rfl fun e => ?_
  refine T_region [] [0, 1, 1000000] [] [(0, .bp 1000000 0), (1, .d (.v (.int .u8 a0))), (1000000, .box [.slf 0 89, .own 5 1 (c1.map cU)])] [] 1 (by kernel_rfl) (trivial) ?_
  refine T_region [(1, { xs := [1000000], res := .tup [], vout := [.box [.slf 0 89, .own 5 1 (c1.map cU)]] })] [0, 1, 1000000] [] [(0, .bp 1000000 0), (1, .d (.v (.int .u8 a0))), (1000000, .box [.slf 0 89, .own 5 1 (c1.map cU)])] [(1, ACall Tryd.prog 112 [.bp 1000000 0] [.box [.slf 0 89, .own 5 1 (c1.map cU)]] (.tup []) [.box [.slf 0 89, .own 5 1 (c1.map cU)]])] 0 (by kernel_rfl) (b_copyCheck (E := 89) (by kernel_rfl) (by kernel_rfl) (by kernel_rfl)) ?_
  obtain ⟨hp1, h⟩ := chk_ok h
  obtain ⟨hp2, h⟩ := chk_ok h
  refine T_region [(6, { es := some (([(UInt8.ofNat a0.toNat)]).map cU) }), (7, { es := some ((c1 ++ ([(UInt8.ofNat a0.toNat)])).map cU) })] [1000000] [] [(1000000, .box [.slf 0 89, .own 5 1 ((c1 ++ ([(UInt8.ofNat a0.toNat)])).map cU)])] [(6, [[Dat.v (.int .u8 a0)]] = (([(UInt8.ofNat a0.toNat)]).map cU)), (0, (c1.map cU).length + (([(UInt8.ofNat a0.toNat)]).map cU).length ≤ 4294967296 ∧ (c1.map cU) ++ (([(UInt8.ofNat a0.toNat)]).map cU) = ((c1 ++ ([(UInt8.ofNat a0.toNat)])).map cU))] 3 (by kernel_rfl) (⟨(lit_u hp1 (rfl : ([] : List (List Dat)) = ([] : List UInt8).map cU)), app_ok cU hp2⟩) ?_
  refine T_region [] [4, 1000000] [] [(4, .d (.v .nilIface)), (1000000, .box [.slf 0 89, .own 5 1 ((c1 ++ ([(UInt8.ofNat a0.toNat)])).map cU)])] [] 1 (by kernel_rfl) (trivial) ?_
  obtain hs := Option.some.inj h; subst hs
  refine T_ret fun a w hm => T_return (fr' := [(4, .d (.v .nilIface)), (1000000, .box [.slf 0 89, .own 5 1 ((c1 ++ ([(UInt8.ofNat a0.toNat)])).map cU)])]) [4] (by kernel_rfl) [.keep [4, 1000000]] (by kernel_rfl) (by kernel_rfl) (by kernel_rfl) (by show _ = _; kernel_rfl) (by exact ⟨⟨by kernel_rfl, by kernel_rfl⟩, trivial⟩) a w hm

theorem token_printedName_ok {F : Nat} {a0 : List UInt8} {r : (List UInt8)} (h : token_printedName F a0 = some r) : ACall Tryd.prog 50 [.d (.str a0)] [] (.d (.str r)) [] := by
  rw [token_printedName] at h
  refine ACall.intro (N := 45) Tryd.func50 rfl rfl rfl rfl rfl fun e => ?_
  refine T_region [] [0] [] [(0, .d (.str a0))] [] 1 (by kernel_rfl) (trivial) ?_
  refine T_region [(0, { slfs := [(0, 0)] })] [0, 3] [] [(0, .d (.str a0)), (3, .box [.slf 0 89, .own 5 1 ([].map cU)])] [] 1 (by kernel_rfl) (trivial) ?_
  refine T_seqk ?_
  refine T_region [] [0, 3, 7, 8] [] [(0, .d (.str a0)), (3, .box [.slf 0 89, .own 5 1 ([].map cU)]), (7, .d (.v (.int .i64 (a0.length : Int)))), (8, .d (.v (.int .i64 (0 : Int))))] [] 3 (by kernel_rfl) (trivial) ?_
  refine T_joinct h (fun (p : (List UInt8)) => [(3, .box [.slf 0 89, .own 5 1 (p.map cU)])]) (fun s h => ?_) (fun v4 h => ?_)
  · refine T_co [.keep [0, 3, 7, 8]] ((fun (p : (List UInt8) × Int) => [(0, .d (.str a0)), (3, .box [.slf 0 89, .own 5 1 (p.1.map cU)]), (7, .d (.v (.int .i64 (a0.length : Int)))), (8, .d (.v (.int .i64 p.2)))]) ([], (0 : Int))) (by show _ = _; kernel_rfl) ?_
    refine T_block ?_
    refine T_loopF (ι := (List UInt8) × Int) (fun (p : (List UInt8) × Int) => [(0, .d (.str a0)), (3, .box [.slf 0 89, .own 5 1 (p.1.map cU)]), (7, .d (.v (.int .i64 (a0.length : Int)))), (8, .d (.v (.int .i64 p.2)))]) (fun n p => token_printedName_L0 F a0 n p.1 p.2 = some s) (fun i hh => by simp [token_printedName_L0] at hh) (fun n p h => ?_) F ([], (0 : Int)) h
    obtain ⟨v1, v2⟩ := p
    have h : token_printedName_L0 F a0 (n + 1) v1 v2 = some s := h
    rw [token_printedName_L0] at h
    refine T_region [] [0, 3, 7, 8, 9] [] [(0, .d (.str a0)), (3, .box [.slf 0 89, .own 5 1 (v1.map cU)]), (7, .d (.v (.int .i64 (a0.length : Int)))), (8, .d (.v (.int .i64 v2))), (9, .d (.v (.bool (decide (v2 < (a0.length : Int))))))] [] 1 (by kernel_rfl) (trivial) ?_
    refine T_seqk ?_
    refine T_cond (decide (v2 < (a0.length : Int))) (by kernel_rfl) (fun hc => ?_) (fun hc => ?_)
    · have h := cond_tt hc h
      refine T_skip fun a w hm => then_norm (((?_ : T Tryd.prog e 45 _ _ _) a w hm))
      refine T_joinc h (fun (p : (List UInt8)) => [(0, .d (.str a0)), (3, .box [.slf 0 89, .own 5 1 (p.map cU)]), (7, .d (.v (.int .i64 (a0.length : Int)))), (8, .d (.v (.int .i64 v2)))]) (fun s h => ?_) (fun v3 h => ?_)
      · refine T_block ?_
        refine T_region [] [0, 3, 4, 7, 8] [] [(0, .d (.str a0)), (3, .box [.slf 0 89, .own 5 1 (v1.map cU)]), (4, .d (.v (.int .i64 v2))), (7, .d (.v (.int .i64 (a0.length : Int)))), (8, .d (.v (.int .i64 v2)))] [] 2 (by kernel_rfl) (trivial) ?_
        obtain ⟨hp1, h⟩ := chk_ok h
        refine T_region [] [0, 3, 5, 7, 8] [] [(0, .d (.str a0)), (3, .box [.slf 0 89, .own 5 1 (v1.map cU)]), (5, .d (.v (.int .u8 ((a0.getD v2.toNat 0).toNat : Int)))), (7, .d (.v (.int .i64 (a0.length : Int)))), (8, .d (.v (.int .i64 v2)))] [(2, 0 ≤ v2 ∧ v2 < a0.length)] 1 (by kernel_rfl) (hp1) ?_
        refine T_seqk ?_
        obtain ⟨y1, hy1, h⟩ := call_ok h
        obtain ⟨y2, hy2, h⟩ := call_ok h
        obtain ⟨z1, hz1, h⟩ := lett_ok h
        obtain ⟨z2, hz2, h⟩ := lett_ok h
        refine T_region [(1, { res := .d (.v (.bool y1)) }), (4, { res := .d (.v (.bool y2)) }), (9, { rw := some (.d (.v (.bool z1))) }), (17, { rw := some (.d (.v (.bool z2))) })] [0, 3, 5, 7, 8, 31] [] [(0, .d (.str a0)), (3, .box [.slf 0 89, .own 5 1 (v1.map cU)]), (5, .d (.v (.int .u8 ((a0.getD v2.toNat 0).toNat : Int)))), (7, .d (.v (.int .i64 (a0.length : Int)))), (8, .d (.v (.int .i64 v2))), (31, .d (.v (.bool z2)))] [(1, ACall Tryd.prog 87 [.d (.v (.int .u8 ((a0.getD v2.toNat 0).toNat : Int)))] [] (.d (.v (.bool y1))) []), (1, (((y1 == false) && true) = true → True)), (0, (((y1 == false) && true) = true → ACall Tryd.prog 88 [.d (.v (.int .u8 ((a0.getD v2.toNat 0).toNat : Int)))] [] (.d (.v (.bool y2))) [])), (2, ((((bif y1 then true else y2) == false) && true) = true → True)), (0, ((((bif y1 then true else y2) == false) && true) = true → True)), (0, (True) ∧ AV.d (.v (.bool (bif (bif y1 then true else y2) then true else (((a0.getD v2.toNat 0).toNat : Int) == (95 : Int))))) = .d (.v (.bool z1))), (1, (((z1 == false) && true) = true → True)), (0, (((z1 == false) && true) = true → True)), (2, ((((bif z1 then true else (((a0.getD v2.toNat 0).toNat : Int) == (45 : Int))) == false) && true) = true → True)), (0, ((((bif z1 then true else (((a0.getD v2.toNat 0).toNat : Int) == (45 : Int))) == false) && true) = true → True)), (0, (True) ∧ AV.d (.v (.bool (bif (bif z1 then true else (((a0.getD v2.toNat 0).toNat : Int) == (45 : Int))) then true else (((a0.getD v2.toNat 0).toNat : Int) == (46 : Int))))) = .d (.v (.bool z2)))] 0 (by kernel_rfl) (⟨token_letter_ok hy1, (fun hg => trivial), (fun hg => token_digit_ok (gcall_ok hg hy2)), (fun hg => trivial), (fun hg => trivial), ⟨trivial, (by subst hz1; rfl)⟩, (fun hg => trivial), (fun hg => trivial), (fun hg => trivial), (fun hg => trivial), ⟨trivial, (by subst hz2; rfl)⟩⟩) ?_
        refine T_cond z2 (by kernel_rfl) (fun hc => ?_) (fun hc => ?_)
        · have h := cond_tt hc h
          obtain ⟨y3, hy3, h⟩ := call_ok h
          refine T_region [(1, { res := .d (.v .nilIface), vout := [.box [.slf 0 89, .own 5 1 (y3.2.map cU)]], xs := [3] })] [0, 3, 7, 8] [] [(0, .d (.str a0)), (3, .box [.slf 0 89, .own 5 1 (y3.2.map cU)]), (7, .d (.v (.int .i64 (a0.length : Int)))), (8, .d (.v (.int .i64 v2)))] [(1, ACall Tryd.prog 89 [.bp 1000000 0, .d (.v (.int .u8 ((a0.getD v2.toNat 0).toNat : Int)))] [.box [.slf 0 89, .own 5 1 (v1.map cU)]] (.d (.v .nilIface)) [.box [.slf 0 89, .own 5 1 (y3.2.map cU)]])] 0 (by kernel_rfl) (strings_Builder_WriteByte_ok hy3) ?_
          obtain hs := Option.some.inj h; subst hs
          refine T_exit fun a w hm => then_exit (inBlock_exit (then_norm (hm.co (cs := [.keep [0, 3, 7, 8]]) (by show _ = _; kernel_rfl))))
        · have h := cond_ff hc h
          refine T_skip fun a w hm => then_norm (((?_ : T Tryd.prog e 45 _ _ _) a w hm))
          obtain ⟨y4, hy4, h⟩ := call_ok h
          refine T_region [(0, { res := .d (.v .nilIface), vout := [.box [.slf 0 89, .own 5 1 (y4.2.map cU)]], xs := [3] })] [0, 3, 5, 7, 8] [] [(0, .d (.str a0)), (3, .box [.slf 0 89, .own 5 1 (y4.2.map cU)]), (5, .d (.v (.int .u8 ((a0.getD v2.toNat 0).toNat : Int)))), (7, .d (.v (.int .i64 (a0.length : Int)))), (8, .d (.v (.int .i64 v2)))] [(0, ACall Tryd.prog 89 [.bp 1000000 0, .d (.v (.int .u8 (35 : Int)))] [.box [.slf 0 89, .own 5 1 (v1.map cU)]] (.d (.v .nilIface)) [.box [.slf 0 89, .own 5 1 (y4.2.map cU)]])] 0 (by kernel_rfl) (strings_Builder_WriteByte_ok hy4) ?_
          obtain ⟨hp2, h⟩ := chk_ok h
          obtain ⟨z3, hz3, h⟩ := lett_ok h
          obtain ⟨y5, hy5, h⟩ := call_ok h
          refine T_region [(2, { rw := some (.d (.v (.int .u8 z3))) }), (3, { res := .d (.v .nilIface), vout := [.box [.slf 0 89, .own 5 1 (y5.2.map cU)]], xs := [3] })] [0, 3, 5, 7, 8] [] [(0, .d (.str a0)), (3, .box [.slf 0 89, .own 5 1 (y5.2.map cU)]), (5, .d (.v (.int .u8 ((a0.getD v2.toNat 0).toNat : Int)))), (7, .d (.v (.int .i64 (a0.length : Int)))), (8, .d (.v (.int .i64 v2)))] [(1, 0 ≤ (4 : Int)), (0, (0 ≤ (((a0.getD v2.toNat 0).toNat : Int).fdiv (2 ^ (min (4 : Int).toNat IntKind.u8.bits))) ∧ (((a0.getD v2.toNat 0).toNat : Int).fdiv (2 ^ (min (4 : Int).toNat IntKind.u8.bits))) < ([48, 49, 50, 51, 52, 53, 54, 55, 56, 57, 97, 98, 99, 100, 101, 102] : List UInt8).length) ∧ AV.d (.v (.int .u8 ((([48, 49, 50, 51, 52, 53, 54, 55, 56, 57, 97, 98, 99, 100, 101, 102] : List UInt8).getD (((a0.getD v2.toNat 0).toNat : Int).fdiv (2 ^ (min (4 : Int).toNat IntKind.u8.bits))).toNat 0).toNat : Int))) = .d (.v (.int .u8 z3))), (0, ACall Tryd.prog 89 [.bp 1000000 0, .d (.v (.int .u8 z3))] [.box [.slf 0 89, .own 5 1 (y4.2.map cU)]] (.d (.v .nilIface)) [.box [.slf 0 89, .own 5 1 (y5.2.map cU)]])] 0 (by kernel_rfl) (⟨(show 0 ≤ (4 : Int) by decide), ⟨hp2, (by subst hz3; rfl)⟩, strings_Builder_WriteByte_ok hy5⟩) ?_
          obtain ⟨z4, hz4, h⟩ := lett_ok h
          obtain ⟨hp3, h⟩ := chk_ok h
          obtain ⟨z5, hz5, h⟩ := lett_ok h
          obtain ⟨y6, hy6, h⟩ := call_ok h
          obtain hs := Option.some.inj h; subst hs
          refine T_region_end [(1, { rw := some (.d (.v (.int .u8 z4))) }), (2, { rw := some (.d (.v (.int .u8 z5))) }), (3, { res := .d (.v .nilIface), vout := [.box [.slf 0 89, .own 5 1 (y6.2.map cU)]], xs := [3] })] [0, 3, 7, 8] [] [(0, .d (.str a0)), (3, .box [.slf 0 89, .own 5 1 (y6.2.map cU)]), (7, .d (.v (.int .i64 (a0.length : Int)))), (8, .d (.v (.int .i64 v2)))] [(1, (True) ∧ AV.d (.v (.int .u8 (IntKind.u8.wrap ((BitVec.ofInt IntKind.u8.bits ((a0.getD v2.toNat 0).toNat : Int) &&& BitVec.ofInt IntKind.u8.bits (15 : Int)).toNat : Int)))) = .d (.v (.int .u8 z4))), (0, (0 ≤ z4 ∧ z4 < ([48, 49, 50, 51, 52, 53, 54, 55, 56, 57, 97, 98, 99, 100, 101, 102] : List UInt8).length) ∧ AV.d (.v (.int .u8 ((([48, 49, 50, 51, 52, 53, 54, 55, 56, 57, 97, 98, 99, 100, 101, 102] : List UInt8).getD z4.toNat 0).toNat : Int))) = .d (.v (.int .u8 z5))), (0, ACall Tryd.prog 89 [.bp 1000000 0, .d (.v (.int .u8 z5))] [.box [.slf 0 89, .own 5 1 (y5.2.map cU)]] (.d (.v .nilIface)) [.box [.slf 0 89, .own 5 1 (y6.2.map cU)]])] 0 (by kernel_rfl) (⟨⟨trivial, (by subst hz4; rfl)⟩, ⟨hp3, (by subst hz5; rfl)⟩, strings_Builder_WriteByte_ok hy6⟩) fun a w hm => inBlock_norm (then_norm (hm.co (cs := [.keep [0, 3, 7, 8]]) (by show _ = _; kernel_rfl)))
      · skip
        refine T_region_end [] [0, 3, 7, 8] [] [(0, .d (.str a0)), (3, .box [.slf 0 89, .own 5 1 (v3.map cU)]), (7, .d (.v (.int .i64 (a0.length : Int)))), (8, .d (.v (.int .i64 (IntKind.i64.wrap (v2 + (1 : Int))))))] [] 2 (by kernel_rfl) (trivial) fun a w hm => then_norm (⟨(v3, IntKind.i64.wrap (v2 + (1 : Int))), h, hm.co (cs := [.keep [0, 3, 7, 8]]) (by show _ = _; kernel_rfl)⟩)
    · have h := cond_ff hc h
      obtain hs := Option.some.inj h; subst hs
      refine T_exit fun a w hm => then_exit (then_exit (inBlock_exit (then_norm (hm.co (cs := [.keep [3]]) (by show _ = _; kernel_rfl)))))
  · skip
    refine fun a w hm => then_norm (((?_ : T Tryd.prog e 45 _ _ _) a w hm))
    obtain ⟨hp4, h⟩ := chk_ok h
    refine T_region [(0, { xs := [3], vout := [.box [.slf 0 89, .junk]], res := .d (.str v4) })] [2] [] [(2, .d (.str v4))] [(0, ACall Tryd.prog 67 [.bp 1000000 0] [.box [.slf 0 89, .own 5 1 (v4.map cU)]] (.d (.str v4)) [.box [.slf 0 89, .junk]])] 1 (by kernel_rfl) (b_String (l := v4) hp4 (by kernel_rfl) (by kernel_rfl)) ?_
    obtain hs := Option.some.inj h; subst hs
    refine T_ret fun a w hm => T_return (fr' := [(2, .d (.str v4))]) [2] (by kernel_rfl) [.keep [2]] (by kernel_rfl) (by kernel_rfl) (by kernel_rfl) (by show _ = _; kernel_rfl) (by exact trivial) a w hm

theorem strings_Builder_WriteString_ok {F : Nat} {a0 : List UInt8} {c1 : List UInt8} {r : Int × Unit × (List UInt8)} (h : strings_Builder_WriteString F a0 c1 = some r) : ACall Tryd.prog 90 [.bp 1000000 0, .d (.str a0)] [.box [.slf 0 89, .own 5 1 (c1.map cU)]] (.tup [.d (.v (.int .i64 r.1)), .d (.v .nilIface)]) [.box [.slf 0 89, .own 5 1 (r.2.2.map cU)]] := by
  rw [strings_Builder_WriteString] at h
  refine ACall.intro (N := 19) Tryd.func90 rfl rfl rfl rfl rfl fun e => ?_
  refine T_region [] [0, 1, 1000000] [] [(0, .bp 1000000 0), (1, .d (.str a0)), (1000000, .box [.slf 0 89, .own 5 1 (c1.map cU)])] [] 2 (by kernel_rfl) (trivial) ?_
  refine T_region [(1, { xs := [1000000], res := .tup [], vout := [.box [.slf 0 89, .own 5 1 (c1.map cU)]] })] [0, 1, 1000000] [] [(0, .bp 1000000 0), (1, .d (.str a0)), (1000000, .box [.slf 0 89, .own 5 1 (c1.map cU)])] [(1, ACall Tryd.prog 112 [.bp 1000000 0] [.box [.slf 0 89, .own 5 1 (c1.map cU)]] (.tup []) [.box [.slf 0 89, .own 5 1 (c1.map cU)]])] 0 (by kernel_rfl) (b_copyCheck (E := 89) (by kernel_rfl) (by kernel_rfl) (by kernel_rfl)) ?_
  obtain ⟨hp1, h⟩ := chk_ok h
  refine T_region [(6, { es := some ((c1 ++ a0).map cU) })] [1, 1000000] [] [(1, .d (.str a0)), (1000000, .box [.slf 0 89, .own 5 1 ((c1 ++ a0).map cU)])] [(6, (c1.map cU).length + (a0.map cU).length ≤ 4294967296 ∧ (c1.map cU) ++ (a0.map cU) = ((c1 ++ a0).map cU))] 3 (by kernel_rfl) (app_ok cU hp1) ?_
  refine T_region [] [4, 5, 1000000] [] [(4, .d (.v (.int .i64 (a0.length : Int)))), (5, .d (.v .nilIface)), (1000000, .box [.slf 0 89, .own 5 1 ((c1 ++ a0).map cU)])] [] 4 (by kernel_rfl) (trivial) ?_
  obtain hs := Option.some.inj h; subst hs
  refine T_ret fun a w hm => T_return (fr' := [(4, .d (.v (.int .i64 (a0.length : Int)))), (5, .d (.v .nilIface)), (1000000, .box [.slf 0 89, .own 5 1 ((c1 ++ a0).map cU)])]) [4, 5] (by kernel_rfl) [.keep [4, 5, 1000000]] (by kernel_rfl) (by kernel_rfl) (by kernel_rfl) (by show _ = _; kernel_rfl) (by exact ⟨⟨by kernel_rfl, by kernel_rfl⟩, trivial⟩) a w hm

theorem token_printedText_ok {F : Nat} {a0 : List UInt8} {r : (List UInt8)} (h : token_printedText F a0 = some r) : ACall Tryd.prog 51 [.d (.str a0)] [] (.d (.str r)) [] := by
  rw [token_printedText] at h
  refine ACall.intro (N := 58) Tryd.func51 rfl rfl rfl rfl rfl fun e => ?_
  refine T_region [] [0] [] [(0, .d (.str a0))] [] 1 (by kernel_rfl) (trivial) ?_
  refine T_region [(0, { slfs := [(0, 0)] })] [0, 3] [] [(0, .d (.str a0)), (3, .box [.slf 0 89, .own 5 1 ([].map cU)])] [] 1 (by kernel_rfl) (trivial) ?_
  obtain ⟨y9, hy1, h⟩ := call_ok h
  refine T_region [(0, { res := .d (.v .nilIface), vout := [.box [.slf 0 89, .own 5 1 (y9.2.map cU)]], xs := [3] })] [0, 3] [] [(0, .d (.str a0)), (3, .box [.slf 0 89, .own 5 1 (y9.2.map cU)])] [(0, ACall Tryd.prog 89 [.bp 1000000 0, .d (.v (.int .u8 (40 : Int)))] [.box [.slf 0 89, .own 5 1 ([].map cU)]] (.d (.v .nilIface)) [.box [.slf 0 89, .own 5 1 (y9.2.map cU)]])] 0 (by kernel_rfl) (strings_Builder_WriteByte_ok hy1) ?_
  refine T_seqk ?_
  refine T_region [] [0, 3, 8, 9] [] [(0, .d (.str a0)), (3, .box [.slf 0 89, .own 5 1 (y9.2.map cU)]), (8, .d (.v (.int .i64 (a0.length : Int)))), (9, .d (.v (.int .i64 (0 : Int))))] [] 3 (by kernel_rfl) (trivial) ?_
  refine T_joinct h (fun (p : (List UInt8)) => [(3, .box [.slf 0 89, .own 5 1 (p.map cU)])]) (fun s h => ?_) (fun v4 h => ?_)
  · refine T_co [.keep [0, 3, 8, 9]] ((fun (p : (List UInt8) × Int) => [(0, .d (.str a0)), (3, .box [.slf 0 89, .own 5 1 (p.1.map cU)]), (8, .d (.v (.int .i64 (a0.length : Int)))), (9, .d (.v (.int .i64 p.2)))]) (y9.2, (0 : Int))) (by show _ = _; kernel_rfl) ?_
    refine T_block ?_
    refine T_loopF (ι := (List UInt8) × Int) (fun (p : (List UInt8) × Int) => [(0, .d (.str a0)), (3, .box [.slf 0 89, .own 5 1 (p.1.map cU)]), (8, .d (.v (.int .i64 (a0.length : Int)))), (9, .d (.v (.int .i64 p.2)))]) (fun n p => token_printedText_L0 F a0 n p.1 p.2 = some s) (fun i hh => by simp [token_printedText_L0] at hh) (fun n p h => ?_) F (y9.2, (0 : Int)) h
    obtain ⟨v1, v2⟩ := p
    have h : token_printedText_L0 F a0 (n + 1) v1 v2 = some s := h
    rw [token_printedText_L0] at h
    refine T_region [] [0, 3, 8, 9, 10] [] [(0, .d (.str a0)), (3, .box [.slf 0 89, .own 5 1 (v1.map cU)]), (8, .d (.v (.int .i64 (a0.length : Int)))), (9, .d (.v (.int .i64 v2))), (10, .d (.v (.bool (decide (v2 < (a0.length : Int))))))] [] 1 (by kernel_rfl) (trivial) ?_
    refine T_seqk ?_
    refine T_cond (decide (v2 < (a0.length : Int))) (by kernel_rfl) (fun hc => ?_) (fun hc => ?_)
    · have h := cond_tt hc h
      refine T_skip fun a w hm => then_norm (((?_ : T Tryd.prog e 58 _ _ _) a w hm))
      refine T_joinc h (fun (p : (List UInt8)) => [(0, .d (.str a0)), (3, .box [.slf 0 89, .own 5 1 (p.map cU)]), (8, .d (.v (.int .i64 (a0.length : Int)))), (9, .d (.v (.int .i64 v2)))]) (fun s h => ?_) (fun v3 h => ?_)
      · refine T_block ?_
        refine T_region [] [0, 3, 4, 8, 9] [] [(0, .d (.str a0)), (3, .box [.slf 0 89, .own 5 1 (v1.map cU)]), (4, .d (.v (.int .i64 v2))), (8, .d (.v (.int .i64 (a0.length : Int)))), (9, .d (.v (.int .i64 v2)))] [] 2 (by kernel_rfl) (trivial) ?_
        obtain ⟨hp1, h⟩ := chk_ok h
        refine T_region [] [0, 3, 5, 8, 9] [] [(0, .d (.str a0)), (3, .box [.slf 0 89, .own 5 1 (v1.map cU)]), (5, .d (.v (.int .u8 ((a0.getD v2.toNat 0).toNat : Int)))), (8, .d (.v (.int .i64 (a0.length : Int)))), (9, .d (.v (.int .i64 v2)))] [(2, 0 ≤ v2 ∧ v2 < a0.length)] 1 (by kernel_rfl) (hp1) ?_
        refine T_block ?_
        refine T_region [] [0, 3, 5, 8, 9, 17] [] [(0, .d (.str a0)), (3, .box [.slf 0 89, .own 5 1 (v1.map cU)]), (5, .d (.v (.int .u8 ((a0.getD v2.toNat 0).toNat : Int)))), (8, .d (.v (.int .i64 (a0.length : Int)))), (9, .d (.v (.int .i64 v2))), (17, .d (.v (.bool (((a0.getD v2.toNat 0).toNat : Int) == (10 : Int)))))] [] 3 (by kernel_rfl) (trivial) ?_
        refine T_cond (((a0.getD v2.toNat 0).toNat : Int) == (10 : Int)) (by kernel_rfl) (fun hc => ?_) (fun hc => ?_)
        · have h := cond_tt hc h
          obtain ⟨y1, hy2, h⟩ := call_ok h
          obtain hs := Option.some.inj h; subst hs
          refine T_region_end [(0, { res := .tup [.d (.v (.int .i64 y1.1)), .d (.v .nilIface)], vout := [.box [.slf 0 89, .own 5 1 (y1.2.2.map cU)]], xs := [3] })] [0, 3, 8, 9] [] [(0, .d (.str a0)), (3, .box [.slf 0 89, .own 5 1 (y1.2.2.map cU)]), (8, .d (.v (.int .i64 (a0.length : Int)))), (9, .d (.v (.int .i64 v2)))] [(0, ACall Tryd.prog 90 [.bp 1000000 0, .d (.str ([92, 110] : List UInt8))] [.box [.slf 0 89, .own 5 1 (v1.map cU)]] (.tup [.d (.v (.int .i64 y1.1)), .d (.v .nilIface)]) [.box [.slf 0 89, .own 5 1 (y1.2.2.map cU)]])] 0 (by kernel_rfl) (strings_Builder_WriteString_ok hy2) fun a w hm => inBlock_norm (inBlock_norm (then_norm (hm.co (cs := [.keep [0, 3, 8, 9]]) (by show _ = _; kernel_rfl))))
        · have h := cond_ff hc h
          refine T_region [] [0, 3, 5, 8, 9, 21] [] [(0, .d (.str a0)), (3, .box [.slf 0 89, .own 5 1 (v1.map cU)]), (5, .d (.v (.int .u8 ((a0.getD v2.toNat 0).toNat : Int)))), (8, .d (.v (.int .i64 (a0.length : Int)))), (9, .d (.v (.int .i64 v2))), (21, .d (.v (.bool (((a0.getD v2.toNat 0).toNat : Int) == (9 : Int)))))] [] 3 (by kernel_rfl) (trivial) ?_
          refine T_cond (((a0.getD v2.toNat 0).toNat : Int) == (9 : Int)) (by kernel_rfl) (fun hc => ?_) (fun hc => ?_)
          · have h := cond_tt hc h
            obtain ⟨y2, hy3, h⟩ := call_ok h
            obtain hs := Option.some.inj h; subst hs
            refine T_region_end [(0, { res := .tup [.d (.v (.int .i64 y2.1)), .d (.v .nilIface)], vout := [.box [.slf 0 89, .own 5 1 (y2.2.2.map cU)]], xs := [3] })] [0, 3, 8, 9] [] [(0, .d (.str a0)), (3, .box [.slf 0 89, .own 5 1 (y2.2.2.map cU)]), (8, .d (.v (.int .i64 (a0.length : Int)))), (9, .d (.v (.int .i64 v2)))] [(0, ACall Tryd.prog 90 [.bp 1000000 0, .d (.str ([92, 116] : List UInt8))] [.box [.slf 0 89, .own 5 1 (v1.map cU)]] (.tup [.d (.v (.int .i64 y2.1)), .d (.v .nilIface)]) [.box [.slf 0 89, .own 5 1 (y2.2.2.map cU)]])] 0 (by kernel_rfl) (strings_Builder_WriteString_ok hy3) fun a w hm => inBlock_norm (inBlock_norm (then_norm (hm.co (cs := [.keep [0, 3, 8, 9]]) (by show _ = _; kernel_rfl))))
          · have h := cond_ff hc h
            obtain ⟨z1, hz1, h⟩ := lett_ok h
            refine T_region [(5, { rw := some (.d (.v (.bool z1))) })] [0, 3, 5, 8, 9, 25] [] [(0, .d (.str a0)), (3, .box [.slf 0 89, .own 5 1 (v1.map cU)]), (5, .d (.v (.int .u8 ((a0.getD v2.toNat 0).toNat : Int)))), (8, .d (.v (.int .i64 (a0.length : Int)))), (9, .d (.v (.int .i64 v2))), (25, .d (.v (.bool (bif z1 then true else (((a0.getD v2.toNat 0).toNat : Int) == (92 : Int))))))] [(3, ((((((a0.getD v2.toNat 0).toNat : Int) == (40 : Int)) == false) && true) = true → True)), (0, ((((((a0.getD v2.toNat 0).toNat : Int) == (40 : Int)) == false) && true) = true → True)), (0, (True) ∧ AV.d (.v (.bool (bif (((a0.getD v2.toNat 0).toNat : Int) == (40 : Int)) then true else (((a0.getD v2.toNat 0).toNat : Int) == (41 : Int))))) = .d (.v (.bool z1))), (1, (((z1 == false) && true) = true → True)), (0, (((z1 == false) && true) = true → True))] 2 (by kernel_rfl) (⟨(fun hg => trivial), (fun hg => trivial), ⟨trivial, (by subst hz1; rfl)⟩, (fun hg => trivial), (fun hg => trivial)⟩) ?_
            refine T_cond (bif z1 then true else (((a0.getD v2.toNat 0).toNat : Int) == (92 : Int))) (by kernel_rfl) (fun hc => ?_) (fun hc => ?_)
            · have h := cond_tt hc h
              obtain ⟨y3, hy4, h⟩ := call_ok h
              refine T_region [(0, { res := .d (.v .nilIface), vout := [.box [.slf 0 89, .own 5 1 (y3.2.map cU)]], xs := [3] })] [0, 3, 5, 8, 9] [] [(0, .d (.str a0)), (3, .box [.slf 0 89, .own 5 1 (y3.2.map cU)]), (5, .d (.v (.int .u8 ((a0.getD v2.toNat 0).toNat : Int)))), (8, .d (.v (.int .i64 (a0.length : Int)))), (9, .d (.v (.int .i64 v2)))] [(0, ACall Tryd.prog 89 [.bp 1000000 0, .d (.v (.int .u8 (92 : Int)))] [.box [.slf 0 89, .own 5 1 (v1.map cU)]] (.d (.v .nilIface)) [.box [.slf 0 89, .own 5 1 (y3.2.map cU)]])] 0 (by kernel_rfl) (strings_Builder_WriteByte_ok hy4) ?_
              obtain ⟨y4, hy5, h⟩ := call_ok h
              obtain hs := Option.some.inj h; subst hs
              refine T_region_end [(1, { res := .d (.v .nilIface), vout := [.box [.slf 0 89, .own 5 1 (y4.2.map cU)]], xs := [3] })] [0, 3, 8, 9] [] [(0, .d (.str a0)), (3, .box [.slf 0 89, .own 5 1 (y4.2.map cU)]), (8, .d (.v (.int .i64 (a0.length : Int)))), (9, .d (.v (.int .i64 v2)))] [(1, ACall Tryd.prog 89 [.bp 1000000 0, .d (.v (.int .u8 ((a0.getD v2.toNat 0).toNat : Int)))] [.box [.slf 0 89, .own 5 1 (y3.2.map cU)]] (.d (.v .nilIface)) [.box [.slf 0 89, .own 5 1 (y4.2.map cU)]])] 0 (by kernel_rfl) (strings_Builder_WriteByte_ok hy5) fun a w hm => inBlock_norm (inBlock_norm (then_norm (hm.co (cs := [.keep [0, 3, 8, 9]]) (by show _ = _; kernel_rfl))))
            · have h := cond_ff hc h
              obtain ⟨z2, hz2, h⟩ := lett_ok h
              refine T_region [(5, { rw := some (.d (.v (.bool z2))) })] [0, 3, 5, 8, 9, 39] [] [(0, .d (.str a0)), (3, .box [.slf 0 89, .own 5 1 (v1.map cU)]), (5, .d (.v (.int .u8 ((a0.getD v2.toNat 0).toNat : Int)))), (8, .d (.v (.int .i64 (a0.length : Int)))), (9, .d (.v (.int .i64 v2))), (39, .d (.v (.bool z2)))] [(3, ((((decide (((a0.getD v2.toNat 0).toNat : Int) < (32 : Int))) == false) && true) = true → True)), (0, ((((decide (((a0.getD v2.toNat 0).toNat : Int) < (32 : Int))) == false) && true) = true → True)), (0, (True) ∧ AV.d (.v (.bool (bif (decide (((a0.getD v2.toNat 0).toNat : Int) < (32 : Int))) then true else (decide (((a0.getD v2.toNat 0).toNat : Int) > (125 : Int)))))) = .d (.v (.bool z2)))] 1 (by kernel_rfl) (⟨(fun hg => trivial), (fun hg => trivial), ⟨trivial, (by subst hz2; rfl)⟩⟩) ?_
              refine T_cond z2 (by kernel_rfl) (fun hc => ?_) (fun hc => ?_)
              · have h := cond_tt hc h
                obtain ⟨y5, hy6, h⟩ := call_ok h
                refine T_region [(0, { res := .tup [.d (.v (.int .i64 y5.1)), .d (.v .nilIface)], vout := [.box [.slf 0 89, .own 5 1 (y5.2.2.map cU)]], xs := [3] })] [0, 3, 5, 8, 9] [] [(0, .d (.str a0)), (3, .box [.slf 0 89, .own 5 1 (y5.2.2.map cU)]), (5, .d (.v (.int .u8 ((a0.getD v2.toNat 0).toNat : Int)))), (8, .d (.v (.int .i64 (a0.length : Int)))), (9, .d (.v (.int .i64 v2)))] [(0, ACall Tryd.prog 90 [.bp 1000000 0, .d (.str ([92, 120] : List UInt8))] [.box [.slf 0 89, .own 5 1 (v1.map cU)]] (.tup [.d (.v (.int .i64 y5.1)), .d (.v .nilIface)]) [.box [.slf 0 89, .own 5 1 (y5.2.2.map cU)]])] 0 (by kernel_rfl) (strings_Builder_WriteString_ok hy6) ?_
                obtain ⟨hp2, h⟩ := chk_ok h
                obtain ⟨z3, hz3, h⟩ := lett_ok h
                obtain ⟨y6, hy7, h⟩ := call_ok h
                refine T_region [(2, { rw := some (.d (.v (.int .u8 z3))) }), (3, { res := .d (.v .nilIface), vout := [.box [.slf 0 89, .own 5 1 (y6.2.map cU)]], xs := [3] })] [0, 3, 5, 8, 9] [] [(0, .d (.str a0)), (3, .box [.slf 0 89, .own 5 1 (y6.2.map cU)]), (5, .d (.v (.int .u8 ((a0.getD v2.toNat 0).toNat : Int)))), (8, .d (.v (.int .i64 (a0.length : Int)))), (9, .d (.v (.int .i64 v2)))] [(1, 0 ≤ (4 : Int)), (0, (0 ≤ (((a0.getD v2.toNat 0).toNat : Int).fdiv (2 ^ (min (4 : Int).toNat IntKind.u8.bits))) ∧ (((a0.getD v2.toNat 0).toNat : Int).fdiv (2 ^ (min (4 : Int).toNat IntKind.u8.bits))) < ([48, 49, 50, 51, 52, 53, 54, 55, 56, 57, 97, 98, 99, 100, 101, 102] : List UInt8).length) ∧ AV.d (.v (.int .u8 ((([48, 49, 50, 51, 52, 53, 54, 55, 56, 57, 97, 98, 99, 100, 101, 102] : List UInt8).getD (((a0.getD v2.toNat 0).toNat : Int).fdiv (2 ^ (min (4 : Int).toNat IntKind.u8.bits))).toNat 0).toNat : Int))) = .d (.v (.int .u8 z3))), (0, ACall Tryd.prog 89 [.bp 1000000 0, .d (.v (.int .u8 z3))] [.box [.slf 0 89, .own 5 1 (y5.2.2.map cU)]] (.d (.v .nilIface)) [.box [.slf 0 89, .own 5 1 (y6.2.map cU)]])] 0 (by kernel_rfl) (⟨(show 0 ≤ (4 : Int) by decide), ⟨hp2, (by subst hz3; rfl)⟩, strings_Builder_WriteByte_ok hy7⟩) ?_
                obtain ⟨z4, hz4, h⟩ := lett_ok h
                obtain ⟨hp3, h⟩ := chk_ok h
                obtain ⟨z5, hz5, h⟩ := lett_ok h
                obtain ⟨y7, hy8, h⟩ := call_ok h
                obtain hs := Option.some.inj h; subst hs
                refine T_region_end [(1, { rw := some (.d (.v (.int .u8 z4))) }), (2, { rw := some (.d (.v (.int .u8 z5))) }), (3, { res := .d (.v .nilIface), vout := [.box [.slf 0 89, .own 5 1 (y7.2.map cU)]], xs := [3] })] [0, 3, 8, 9] [] [(0, .d (.str a0)), (3, .box [.slf 0 89, .own 5 1 (y7.2.map cU)]), (8, .d (.v (.int .i64 (a0.length : Int)))), (9, .d (.v (.int .i64 v2)))] [(1, (True) ∧ AV.d (.v (.int .u8 (IntKind.u8.wrap ((BitVec.ofInt IntKind.u8.bits ((a0.getD v2.toNat 0).toNat : Int) &&& BitVec.ofInt IntKind.u8.bits (15 : Int)).toNat : Int)))) = .d (.v (.int .u8 z4))), (0, (0 ≤ z4 ∧ z4 < ([48, 49, 50, 51, 52, 53, 54, 55, 56, 57, 97, 98, 99, 100, 101, 102] : List UInt8).length) ∧ AV.d (.v (.int .u8 ((([48, 49, 50, 51, 52, 53, 54, 55, 56, 57, 97, 98, 99, 100, 101, 102] : List UInt8).getD z4.toNat 0).toNat : Int))) = .d (.v (.int .u8 z5))), (0, ACall Tryd.prog 89 [.bp 1000000 0, .d (.v (.int .u8 z5))] [.box [.slf 0 89, .own 5 1 (y6.2.map cU)]] (.d (.v .nilIface)) [.box [.slf 0 89, .own 5 1 (y7.2.map cU)]])] 0 (by kernel_rfl) (⟨⟨trivial, (by subst hz4; rfl)⟩, ⟨hp3, (by subst hz5; rfl)⟩, strings_Builder_WriteByte_ok hy8⟩) fun a w hm => inBlock_norm (inBlock_norm (then_norm (hm.co (cs := [.keep [0, 3, 8, 9]]) (by show _ = _; kernel_rfl))))
              · have h := cond_ff hc h
                obtain ⟨y8, hy9, h⟩ := call_ok h
                obtain hs := Option.some.inj h; subst hs
                refine T_region_end [(1, { res := .d (.v .nilIface), vout := [.box [.slf 0 89, .own 5 1 (y8.2.map cU)]], xs := [3] })] [0, 3, 8, 9] [] [(0, .d (.str a0)), (3, .box [.slf 0 89, .own 5 1 (y8.2.map cU)]), (8, .d (.v (.int .i64 (a0.length : Int)))), (9, .d (.v (.int .i64 v2)))] [(1, ACall Tryd.prog 89 [.bp 1000000 0, .d (.v (.int .u8 ((a0.getD v2.toNat 0).toNat : Int)))] [.box [.slf 0 89, .own 5 1 (v1.map cU)]] (.d (.v .nilIface)) [.box [.slf 0 89, .own 5 1 (y8.2.map cU)]])] 0 (by kernel_rfl) (strings_Builder_WriteByte_ok hy9) fun a w hm => inBlock_norm (inBlock_norm (then_norm (hm.co (cs := [.keep [0, 3, 8, 9]]) (by show _ = _; kernel_rfl))))
      · skip
        refine T_region_end [] [0, 3, 8, 9] [] [(0, .d (.str a0)), (3, .box [.slf 0 89, .own 5 1 (v3.map cU)]), (8, .d (.v (.int .i64 (a0.length : Int)))), (9, .d (.v (.int .i64 (IntKind.i64.wrap (v2 + (1 : Int))))))] [] 2 (by kernel_rfl) (trivial) fun a w hm => then_norm (⟨(v3, IntKind.i64.wrap (v2 + (1 : Int))), h, hm.co (cs := [.keep [0, 3, 8, 9]]) (by show _ = _; kernel_rfl)⟩)
    · have h := cond_ff hc h
      obtain hs := Option.some.inj h; subst hs
      refine T_exit fun a w hm => then_exit (then_exit (inBlock_exit (then_norm (hm.co (cs := [.keep [3]]) (by show _ = _; kernel_rfl)))))
  · skip
    refine fun a w hm => then_norm (((?_ : T Tryd.prog e 58 _ _ _) a w hm))
    obtain ⟨y10, hy10, h⟩ := call_ok h
    refine T_region [(0, { res := .d (.v .nilIface), vout := [.box [.slf 0 89, .own 5 1 (y10.2.map cU)]], xs := [3] })] [3] [] [(3, .box [.slf 0 89, .own 5 1 (y10.2.map cU)])] [(0, ACall Tryd.prog 89 [.bp 1000000 0, .d (.v (.int .u8 (41 : Int)))] [.box [.slf 0 89, .own 5 1 (v4.map cU)]] (.d (.v .nilIface)) [.box [.slf 0 89, .own 5 1 (y10.2.map cU)]])] 0 (by kernel_rfl) (strings_Builder_WriteByte_ok hy10) ?_
    obtain ⟨hp4, h⟩ := chk_ok h
    refine T_region [(0, { xs := [3], vout := [.box [.slf 0 89, .junk]], res := .d (.str y10.2) })] [2] [] [(2, .d (.str y10.2))] [(0, ACall Tryd.prog 67 [.bp 1000000 0] [.box [.slf 0 89, .own 5 1 (y10.2.map cU)]] (.d (.str y10.2)) [.box [.slf 0 89, .junk]])] 1 (by kernel_rfl) (b_String (l := y10.2) hp4 (by kernel_rfl) (by kernel_rfl)) ?_
    obtain hs := Option.some.inj h; subst hs
    refine T_ret fun a w hm => T_return (fr' := [(2, .d (.str y10.2))]) [2] (by kernel_rfl) [.keep [2]] (by kernel_rfl) (by kernel_rfl) (by kernel_rfl) (by show _ = _; kernel_rfl) (by exact trivial) a w hm

theorem token_Print_ok {F : Nat} {a0 : S_Token} {r : (List UInt8) × Int} (h : token_Print F a0 = some r) : ACall Tryd.prog 13 [.agg (cS_Token a0)] [.glo 4 (glob_internal_strconv_uint64pow10.flatMap (cI .u64))] (.tup [.d (.str r.1), .d (.v (.int .i64 r.2))]) [.glo 4 (glob_internal_strconv_uint64pow10.flatMap (cI .u64))] := by
  rw [token_Print] at h
  refine ACall.intro (N := 44) Tryd.func13 rfl rfl rfl rfl rfl fun e => ?_
  refine T_region [] [1, 1000000] [] [(1, .box [.d (.v (.int .i64 a0.f0)), .d (.v (.int .i64 a0.f1)), .d (.str a0.f2), .d (.v (.int .i64 a0.f3)), .d (.v (.int .i64 a0.f4))]), (1000000, .glo 4 (glob_internal_strconv_uint64pow10.flatMap (cI .u64)))] [] 3 (by kernel_rfl) (trivial) ?_
  refine T_seqk ?_
  obtain ⟨y1, hy1, h⟩ := call_ok h
  refine T_region [(1, { res := .d (.v (.int .i64 y1)) })] [1, 4, 1000000] [] [(1, .box [.d (.v (.int .i64 a0.f0)), .d (.v (.int .i64 a0.f1)), .d (.str a0.f2), .d (.v (.int .i64 a0.f3)), .d (.v (.int .i64 a0.f4))]), (4, .d (.v (.int .i64 y1))), (1000000, .glo 4 (glob_internal_strconv_uint64pow10.flatMap (cI .u64)))] [(1, ACall Tryd.prog 48 [.agg (cS_Token a0)] [] (.d (.v (.int .i64 y1))) [])] 1 (by kernel_rfl) (token_check_ok hy1) ?_
  refine T_region [] [1, 4, 8, 1000000] [] [(1, .box [.d (.v (.int .i64 a0.f0)), .d (.v (.int .i64 a0.f1)), .d (.str a0.f2), .d (.v (.int .i64 a0.f3)), .d (.v (.int .i64 a0.f4))]), (4, .d (.v (.int .i64 y1))), (8, .d (.v (.bool (y1 != (0 : Int))))), (1000000, .glo 4 (glob_internal_strconv_uint64pow10.flatMap (cI .u64)))] [] 2 (by kernel_rfl) (trivial) ?_
  refine T_cond (y1 != (0 : Int)) (by kernel_rfl) (fun hc => ?_) (fun hc => ?_)
  · have h := cond_tt hc h
    refine T_region [] [2, 3, 1000000] [] [(2, .d (.str [])), (3, .d (.v (.int .i64 y1))), (1000000, .glo 4 (glob_internal_strconv_uint64pow10.flatMap (cI .u64)))] [] 3 (by kernel_rfl) (trivial) ?_
    obtain hs := Option.some.inj h; subst hs
    refine T_ret fun a w hm => then_ret (T_return (fr' := [(2, .d (.str [])), (3, .d (.v (.int .i64 y1))), (1000000, .glo 4 (glob_internal_strconv_uint64pow10.flatMap (cI .u64)))]) [2, 3] (by kernel_rfl) [.keep [2, 3, 1000000]] (by kernel_rfl) (by kernel_rfl) (by kernel_rfl) (by show _ = _; kernel_rfl) (by exact ⟨⟨by kernel_rfl, by kernel_rfl⟩, trivial⟩) a w hm)
  · have h := cond_ff hc h
    refine T_skip fun a w hm => then_norm (((?_ : T Tryd.prog e 44 _ _ _) a w hm))
    refine T_seqk ?_
    refine T_region [] [1, 11, 1000000] [] [(1, .box [.d (.v (.int .i64 a0.f0)), .d (.v (.int .i64 a0.f1)), .d (.str a0.f2), .d (.v (.int .i64 a0.f3)), .d (.v (.int .i64 a0.f4))]), (11, .d (.v (.int .i64 a0.f0))), (1000000, .glo 4 (glob_internal_strconv_uint64pow10.flatMap (cI .u64)))] [] 2 (by kernel_rfl) (trivial) ?_
    refine T_block ?_
    refine T_region [] [1, 11, 12, 1000000] [] [(1, .box [.d (.v (.int .i64 a0.f0)), .d (.v (.int .i64 a0.f1)), .d (.str a0.f2), .d (.v (.int .i64 a0.f3)), .d (.v (.int .i64 a0.f4))]), (11, .d (.v (.int .i64 a0.f0))), (12, .d (.v (.bool (a0.f0 == (1 : Int))))), (1000000, .glo 4 (glob_internal_strconv_uint64pow10.flatMap (cI .u64)))] [] 2 (by kernel_rfl) (trivial) ?_
    refine T_cond (a0.f0 == (1 : Int)) (by kernel_rfl) (fun hc => ?_) (fun hc => ?_)
    · have h := cond_tt hc h
      obtain ⟨hp1, h⟩ := chk_ok h
      refine T_region [(2, { res := .d (.str (Lib.itoa a0.f1)), xs := [1000000], vout := [.glo 4 (glob_internal_strconv_uint64pow10.flatMap (cI .u64))] })] [2, 3, 1000000] [] [(2, .d (.str (Lib.itoa a0.f1))), (3, .d (.v (.int .i64 (0 : Int)))), (1000000, .glo 4 (glob_internal_strconv_uint64pow10.flatMap (cI .u64)))] [(2, ACall Tryd.prog 49 [.d (.v (.int .i64 a0.f1))] [.glo 4 (glob_internal_strconv_uint64pow10.flatMap (cI .u64))] (.d (.str (Lib.itoa a0.f1))) [.glo 4 (glob_internal_strconv_uint64pow10.flatMap (cI .u64))])] 2 (by kernel_rfl) (b_Itoa hp1) ?_
      obtain hs := Option.some.inj h; subst hs
      refine T_ret fun a w hm => inBlock_ret (then_ret (T_return (fr' := [(2, .d (.str (Lib.itoa a0.f1))), (3, .d (.v (.int .i64 (0 : Int)))), (1000000, .glo 4 (glob_internal_strconv_uint64pow10.flatMap (cI .u64)))]) [2, 3] (by kernel_rfl) [.keep [2, 3, 1000000]] (by kernel_rfl) (by kernel_rfl) (by kernel_rfl) (by show _ = _; kernel_rfl) (by exact ⟨⟨by kernel_rfl, by kernel_rfl⟩, trivial⟩) a w hm))
    · have h := cond_ff hc h
      refine T_region [] [1, 11, 17, 1000000] [] [(1, .box [.d (.v (.int .i64 a0.f0)), .d (.v (.int .i64 a0.f1)), .d (.str a0.f2), .d (.v (.int .i64 a0.f3)), .d (.v (.int .i64 a0.f4))]), (11, .d (.v (.int .i64 a0.f0))), (17, .d (.v (.bool (a0.f0 == (2 : Int))))), (1000000, .glo 4 (glob_internal_strconv_uint64pow10.flatMap (cI .u64)))] [] 2 (by kernel_rfl) (trivial) ?_
      refine T_cond (a0.f0 == (2 : Int)) (by kernel_rfl) (fun hc => ?_) (fun hc => ?_)
      · have h := cond_tt hc h
        obtain ⟨y2, hy2, h⟩ := call_ok h
        obtain ⟨hp2, h⟩ := chk_ok h
        refine T_region [(2, { res := .d (.str y2) })] [2, 3, 1000000] [] [(2, .d (.str (([47] : List UInt8) ++ y2))), (3, .d (.v (.int .i64 (0 : Int)))), (1000000, .glo 4 (glob_internal_strconv_uint64pow10.flatMap (cI .u64)))] [(2, ACall Tryd.prog 50 [.d (.str a0.f2)] [] (.d (.str y2)) []), (0, ([47] : List UInt8).length + y2.length ≤ 9223372036854775807)] 2 (by kernel_rfl) (⟨token_printedName_ok hy2, hp2⟩) ?_
        obtain hs := Option.some.inj h; subst hs
        refine T_ret fun a w hm => inBlock_ret (then_ret (T_return (fr' := [(2, .d (.str (([47] : List UInt8) ++ y2))), (3, .d (.v (.int .i64 (0 : Int)))), (1000000, .glo 4 (glob_internal_strconv_uint64pow10.flatMap (cI .u64)))]) [2, 3] (by kernel_rfl) [.keep [2, 3, 1000000]] (by kernel_rfl) (by kernel_rfl) (by kernel_rfl) (by show _ = _; kernel_rfl) (by exact ⟨⟨by kernel_rfl, by kernel_rfl⟩, trivial⟩) a w hm))
      · have h := cond_ff hc h
        refine T_region [] [1, 11, 23, 1000000] [] [(1, .box [.d (.v (.int .i64 a0.f0)), .d (.v (.int .i64 a0.f1)), .d (.str a0.f2), .d (.v (.int .i64 a0.f3)), .d (.v (.int .i64 a0.f4))]), (11, .d (.v (.int .i64 a0.f0))), (23, .d (.v (.bool (a0.f0 == (3 : Int))))), (1000000, .glo 4 (glob_internal_strconv_uint64pow10.flatMap (cI .u64)))] [] 2 (by kernel_rfl) (trivial) ?_
        refine T_cond (a0.f0 == (3 : Int)) (by kernel_rfl) (fun hc => ?_) (fun hc => ?_)
        · have h := cond_tt hc h
          obtain ⟨y3, hy3, h⟩ := call_ok h
          refine T_region [(2, { res := .d (.str y3) })] [2, 3, 1000000] [] [(2, .d (.str y3)), (3, .d (.v (.int .i64 (0 : Int)))), (1000000, .glo 4 (glob_internal_strconv_uint64pow10.flatMap (cI .u64)))] [(2, ACall Tryd.prog 51 [.d (.str a0.f2)] [] (.d (.str y3)) [])] 2 (by kernel_rfl) (token_printedText_ok hy3) ?_
          obtain hs := Option.some.inj h; subst hs
          refine T_ret fun a w hm => inBlock_ret (then_ret (T_return (fr' := [(2, .d (.str y3)), (3, .d (.v (.int .i64 (0 : Int)))), (1000000, .glo 4 (glob_internal_strconv_uint64pow10.flatMap (cI .u64)))]) [2, 3] (by kernel_rfl) [.keep [2, 3, 1000000]] (by kernel_rfl) (by kernel_rfl) (by kernel_rfl) (by show _ = _; kernel_rfl) (by exact ⟨⟨by kernel_rfl, by kernel_rfl⟩, trivial⟩) a w hm))
        · have h := cond_ff hc h
          refine T_region [] [1, 11, 28, 1000000] [] [(1, .box [.d (.v (.int .i64 a0.f0)), .d (.v (.int .i64 a0.f1)), .d (.str a0.f2), .d (.v (.int .i64 a0.f3)), .d (.v (.int .i64 a0.f4))]), (11, .d (.v (.int .i64 a0.f0))), (28, .d (.v (.bool (a0.f0 == (4 : Int))))), (1000000, .glo 4 (glob_internal_strconv_uint64pow10.flatMap (cI .u64)))] [] 2 (by kernel_rfl) (trivial) ?_
          refine T_cond (a0.f0 == (4 : Int)) (by kernel_rfl) (fun hc => ?_) (fun hc => ?_)
          · have h := cond_tt hc h
            obtain ⟨hp3, h⟩ := chk_ok h
            obtain ⟨hp4, h⟩ := chk_ok h
            refine T_region [(2, { res := .d (.str (Lib.itoa a0.f1)), xs := [1000000], vout := [.glo 4 (glob_internal_strconv_uint64pow10.flatMap (cI .u64))] })] [2, 3, 1000000] [] [(2, .d (.str (([64] : List UInt8) ++ (Lib.itoa a0.f1)))), (3, .d (.v (.int .i64 (0 : Int)))), (1000000, .glo 4 (glob_internal_strconv_uint64pow10.flatMap (cI .u64)))] [(2, ACall Tryd.prog 49 [.d (.v (.int .i64 a0.f1))] [.glo 4 (glob_internal_strconv_uint64pow10.flatMap (cI .u64))] (.d (.str (Lib.itoa a0.f1))) [.glo 4 (glob_internal_strconv_uint64pow10.flatMap (cI .u64))]), (0, ([64] : List UInt8).length + (Lib.itoa a0.f1).length ≤ 9223372036854775807)] 2 (by kernel_rfl) (⟨b_Itoa hp3, hp4⟩) ?_
            obtain hs := Option.some.inj h; subst hs
            refine T_ret fun a w hm => inBlock_ret (then_ret (T_return (fr' := [(2, .d (.str (([64] : List UInt8) ++ (Lib.itoa a0.f1)))), (3, .d (.v (.int .i64 (0 : Int)))), (1000000, .glo 4 (glob_internal_strconv_uint64pow10.flatMap (cI .u64)))]) [2, 3] (by kernel_rfl) [.keep [2, 3, 1000000]] (by kernel_rfl) (by kernel_rfl) (by kernel_rfl) (by show _ = _; kernel_rfl) (by exact ⟨⟨by kernel_rfl, by kernel_rfl⟩, trivial⟩) a w hm))
          · have h := cond_ff hc h
            refine T_region [] [1, 34, 1000000] [] [(1, .box [.d (.v (.int .i64 a0.f0)), .d (.v (.int .i64 a0.f1)), .d (.str a0.f2), .d (.v (.int .i64 a0.f3)), .d (.v (.int .i64 a0.f4))]), (34, .d (.v (.bool (a0.f0 == (5 : Int))))), (1000000, .glo 4 (glob_internal_strconv_uint64pow10.flatMap (cI .u64)))] [] 2 (by kernel_rfl) (trivial) ?_
            refine T_cond (a0.f0 == (5 : Int)) (by kernel_rfl) (fun hc => ?_) (fun hc => ?_)
            · have h := cond_tt hc h
              refine T_region [] [2, 3, 1000000] [] [(2, .d (.str a0.f2)), (3, .d (.v (.int .i64 (0 : Int)))), (1000000, .glo 4 (glob_internal_strconv_uint64pow10.flatMap (cI .u64)))] [] 4 (by kernel_rfl) (trivial) ?_
              obtain hs := Option.some.inj h; subst hs
              refine T_ret fun a w hm => inBlock_ret (then_ret (T_return (fr' := [(2, .d (.str a0.f2)), (3, .d (.v (.int .i64 (0 : Int)))), (1000000, .glo 4 (glob_internal_strconv_uint64pow10.flatMap (cI .u64)))]) [2, 3] (by kernel_rfl) [.keep [2, 3, 1000000]] (by kernel_rfl) (by kernel_rfl) (by kernel_rfl) (by show _ = _; kernel_rfl) (by exact ⟨⟨by kernel_rfl, by kernel_rfl⟩, trivial⟩) a w hm))
            · have h := cond_ff hc h
              refine T_skip fun a w hm => inBlock_norm (then_norm (((?_ : T Tryd.prog e 44 _ _ _) a w hm)))
              obtain ⟨hp5, h⟩ := chk_ok h
              obtain ⟨z1, hz1, h⟩ := lett_ok h
              refine T_region [(0, { es := some (([([91] : List UInt8), ([93] : List UInt8), ([60, 60] : List UInt8), ([62, 62] : List UInt8)]).map cS) }), (5, { cs := cS (([([91] : List UInt8), ([93] : List UInt8), ([60, 60] : List UInt8), ([62, 62] : List UInt8)]).getD (IntKind.i64.wrap (a0.f0 - (6 : Int))).toNat []), rw := some (.d (.str z1)) })] [2, 3, 1000000] [] [(2, .d (.str z1)), (3, .d (.v (.int .i64 (0 : Int)))), (1000000, .glo 4 (glob_internal_strconv_uint64pow10.flatMap (cI .u64)))] [(0, (([([91] : List UInt8), ([93] : List UInt8), ([60, 60] : List UInt8), ([62, 62] : List UInt8)]).map cS) = (([([91] : List UInt8), ([93] : List UInt8), ([60, 60] : List UInt8), ([62, 62] : List UInt8)]).map cS)), (3, 0 ≤ (IntKind.i64.wrap (a0.f0 - (6 : Int))) ∧ (IntKind.i64.wrap (a0.f0 - (6 : Int))) < (([([91] : List UInt8), ([93] : List UInt8), ([60, 60] : List UInt8), ([62, 62] : List UInt8)]).map cS).length), (0, ((([([91] : List UInt8), ([93] : List UInt8), ([60, 60] : List UInt8), ([62, 62] : List UInt8)]).map cS)[(IntKind.i64.wrap (a0.f0 - (6 : Int))).toNat]? = some (cS (([([91] : List UInt8), ([93] : List UInt8), ([60, 60] : List UInt8), ([62, 62] : List UInt8)]).getD (IntKind.i64.wrap (a0.f0 - (6 : Int))).toNat []))) ∧ AV.d (.str (([([91] : List UInt8), ([93] : List UInt8), ([60, 60] : List UInt8), ([62, 62] : List UInt8)]).getD (IntKind.i64.wrap (a0.f0 - (6 : Int))).toNat [])) = .d (.str z1))] 2 (by kernel_rfl) (⟨rfl, own_idx cS hp5, ⟨(idx_ok (d := []) cS hp5).2, (by subst hz1; rfl)⟩⟩) ?_
              obtain hs := Option.some.inj h; subst hs
              refine T_ret fun a w hm => T_return (fr' := [(2, .d (.str z1)), (3, .d (.v (.int .i64 (0 : Int)))), (1000000, .glo 4 (glob_internal_strconv_uint64pow10.flatMap (cI .u64)))]) [2, 3] (by kernel_rfl) [.keep [2, 3, 1000000]] (by kernel_rfl) (by kernel_rfl) (by kernel_rfl) (by show _ = _; kernel_rfl) (by exact ⟨⟨by kernel_rfl, by kernel_rfl⟩, trivial⟩) a w hm

theorem ref3_digit_ok {F : Nat} {a0 : Int} {r : Bool} (h : ref3_digit F a0 = some r) : ACall Tryd.prog 52 [.d (.v (.int .u8 a0))] [] (.d (.v (.bool r))) [] := by
  rw [ref3_digit] at h
  refine ACall.intro (N := 9) Tryd.func52 rfl rfl rfl rfl rfl fun e => ?_
  refine T_region [] [0] [] [(0, .d (.v (.int .u8 a0)))] [] 1 (by kernel_rfl) (trivial) ?_
  refine T_region [] [2] [] [(2, .d (.v (.bool (bif (decide (a0 ≥ (48 : Int))) then (decide (a0 ≤ (57 : Int))) else false))))] [(3, ((((decide (a0 ≥ (48 : Int))) == true) && true) = true → True)), (0, ((((decide (a0 ≥ (48 : Int))) == true) && true) = true → True))] 2 (by kernel_rfl) (⟨(fun hg => trivial), (fun hg => trivial)⟩) ?_
  obtain hs := Option.some.inj h; subst hs
  refine T_ret fun a w hm => T_return (fr' := [(2, .d (.v (.bool (bif (decide (a0 ≥ (48 : Int))) then (decide (a0 ≤ (57 : Int))) else false))))]) [2] (by kernel_rfl) [.keep [2]] (by kernel_rfl) (by kernel_rfl) (by kernel_rfl) (by show _ = _; kernel_rfl) (by exact trivial) a w hm

theorem ref3_letter_ok {F : Nat} {a0 : Int} {r : Bool} (h : ref3_letter F a0 = some r) : ACall Tryd.prog 55 [.d (.v (.int .u8 a0))] [] (.d (.v (.bool r))) [] := by
  rw [ref3_letter] at h
  refine ACall.intro (N := 17) Tryd.func55 rfl rfl rfl rfl rfl fun e => ?_
  refine T_region [] [0] [] [(0, .d (.v (.int .u8 a0)))] [] 1 (by kernel_rfl) (trivial) ?_
  obtain ⟨z1, hz1, h⟩ := lett_ok h
  refine T_region [(13, { rw := some (.d (.v (.bool z1))) })] [2] [] [(2, .d (.v (.bool z1)))] [(3, ((((decide (a0 ≥ (65 : Int))) == true) && true) = true → True)), (0, ((((decide (a0 ≥ (65 : Int))) == true) && true) = true → True)), (2, ((((bif (decide (a0 ≥ (65 : Int))) then (decide (a0 ≤ (90 : Int))) else false) == false) && true) = true → True)), (0, ((((bif (decide (a0 ≥ (65 : Int))) then (decide (a0 ≤ (90 : Int))) else false) == false) && true) = true → True)), (0, ((((bif (decide (a0 ≥ (65 : Int))) then (decide (a0 ≤ (90 : Int))) else false) == false) && true) = true → True)), (0, ((((decide (a0 ≥ (97 : Int))) == true) && (((bif (decide (a0 ≥ (65 : Int))) then (decide (a0 ≤ (90 : Int))) else false) == false) && true)) = true → True)), (0, ((((decide (a0 ≥ (97 : Int))) == true) && (((bif (decide (a0 ≥ (65 : Int))) then (decide (a0 ≤ (90 : Int))) else false) == false) && true)) = true → True)), (0, ((((bif (decide (a0 ≥ (65 : Int))) then (decide (a0 ≤ (90 : Int))) else false) == false) && true) = true → True)), (0, (True) ∧ AV.d (.v (.bool (bif (bif (decide (a0 ≥ (65 : Int))) then (decide (a0 ≤ (90 : Int))) else false) then true else (bif (decide (a0 ≥ (97 : Int))) then (decide (a0 ≤ (122 : Int))) else false)))) = .d (.v (.bool z1)))] 1 (by kernel_rfl) (⟨(fun hg => trivial), (fun hg => trivial), (fun hg => trivial), (fun hg => trivial), (fun hg => trivial), (fun hg => trivial), (fun hg => trivial), (fun hg => trivial), ⟨trivial, (by subst hz1; rfl)⟩⟩) ?_
  obtain hs := Option.some.inj h; subst hs
  refine T_ret fun a w hm => T_return (fr' := [(2, .d (.v (.bool z1)))]) [2] (by kernel_rfl) [.keep [2]] (by kernel_rfl) (by kernel_rfl) (by kernel_rfl) (by show _ = _; kernel_rfl) (by exact trivial) a w hm

theorem ref3_wordError_ok {F : Nat} {a0 : List UInt8} {r : Int} (h : ref3_wordError F a0 = some r) : ACall Tryd.prog 53 [.d (.str a0)] [] (.d (.v (.int .i64 r))) [] := by
  rw [ref3_wordError] at h
  refine ACall.intro (N := 43) Tryd.func53 rfl rfl rfl rfl rfl fun e => ?_
  refine T_region [] [0] [] [(0, .d (.str a0))] [] 1 (by kernel_rfl) (trivial) ?_
  refine T_seqk ?_
  refine T_region [] [0, 5, 6] [] [(0, .d (.str a0)), (5, .d (.v (.int .i64 (a0.length : Int)))), (6, .d (.v (.int .i64 (0 : Int))))] [] 3 (by kernel_rfl) (trivial) ?_
  refine T_joinEt h (fun (p : Unit) => [(0, .d (.str a0))]) (fun s h hk1 => ?_) (fun s h => ?_)
  · refine T_co [.keep [0, 5, 6]] ((fun (p : Int) => [(0, .d (.str a0)), (5, .d (.v (.int .i64 (a0.length : Int)))), (6, .d (.v (.int .i64 p)))]) (0 : Int)) (by show _ = _; kernel_rfl) ?_
    refine T_block ?_
    refine T_loopF (ι := Int) (fun (p : Int) => [(0, .d (.str a0)), (5, .d (.v (.int .i64 (a0.length : Int)))), (6, .d (.v (.int .i64 p)))]) (fun n p => ref3_wordError_L0 F a0 n p = some s) (fun i hh => by simp [ref3_wordError_L0] at hh) (fun n v1 h => ?_) F (0 : Int) h
    have h : ref3_wordError_L0 F a0 (n + 1) v1 = some s := h
    rw [ref3_wordError_L0] at h
    refine T_region [] [0, 5, 6, 7] [] [(0, .d (.str a0)), (5, .d (.v (.int .i64 (a0.length : Int)))), (6, .d (.v (.int .i64 v1))), (7, .d (.v (.bool (decide (v1 < (a0.length : Int))))))] [] 1 (by kernel_rfl) (trivial) ?_
    refine T_seqk ?_
    refine T_cond (decide (v1 < (a0.length : Int))) (by kernel_rfl) (fun hc => ?_) (fun hc => ?_)
    · have h := cond_tt hc h
      refine T_skip fun a w hm => then_norm (((?_ : T Tryd.prog e 43 _ _ _) a w hm))
      refine T_seqk ?_
      refine T_block ?_
      refine T_region [] [0, 3, 5, 6] [] [(0, .d (.str a0)), (3, .d (.v (.int .i64 v1))), (5, .d (.v (.int .i64 (a0.length : Int)))), (6, .d (.v (.int .i64 v1)))] [] 2 (by kernel_rfl) (trivial) ?_
      obtain ⟨hp1, h⟩ := chk_ok h
      obtain ⟨y1, hy1, h⟩ := call_ok h
      obtain ⟨hp2, h⟩ := chk_ok h
      obtain ⟨y2, hy2, h⟩ := call_ok h
      obtain ⟨hp3, h⟩ := chk_ok h
      obtain ⟨z1, hz1, h⟩ := lett_ok h
      obtain ⟨hp4, h⟩ := chk_ok h
      obtain ⟨hp5, h⟩ := chk_ok h
      obtain ⟨z2, hz2, h⟩ := lett_ok h
      refine T_region [(3, { res := .d (.v (.bool y1)) }), (9, { res := .d (.v (.bool y2)) }), (17, { rw := some (.d (.v (.bool z1))) }), (29, { rw := some (.d (.v (.bool z2))) })] [0, 5, 6, 38] [] [(0, .d (.str a0)), (5, .d (.v (.int .i64 (a0.length : Int)))), (6, .d (.v (.int .i64 v1))), (38, .d (.v (.bool z2)))] [(2, 0 ≤ v1 ∧ v1 < a0.length), (0, ACall Tryd.prog 55 [.d (.v (.int .u8 ((a0.getD v1.toNat 0).toNat : Int)))] [] (.d (.v (.bool y1))) []), (2, ((((!y1) == true) && true) = true → True)), (0, ((((!y1) == true) && true) = true → True)), (0, ((((!y1) == true) && true) = true → 0 ≤ v1 ∧ v1 < a0.length)), (0, ((((!y1) == true) && true) = true → ACall Tryd.prog 52 [.d (.v (.int .u8 ((a0.getD v1.toNat 0).toNat : Int)))] [] (.d (.v (.bool y2))) [])), (0, ((((!y1) == true) && true) = true → True)), (2, ((((bif (!y1) then (!y2) else false) == true) && true) = true → True)), (0, ((((bif (!y1) then (!y2) else false) == true) && true) = true → True)), (0, ((((bif (!y1) then (!y2) else false) == true) && true) = true → 0 ≤ v1 ∧ v1 < a0.length)), (0, ((((bif (!y1) then (!y2) else false) == true) && true) = true → True)), (0, (True) ∧ AV.d (.v (.bool (bif (bif (!y1) then (!y2) else false) then (((a0.getD v1.toNat 0).toNat : Int) != (42 : Int)) else false))) = .d (.v (.bool z1))), (1, (((z1 == true) && true) = true → True)), (0, (((z1 == true) && true) = true → True)), (0, (((z1 == true) && true) = true → 0 ≤ v1 ∧ v1 < a0.length)), (0, (((z1 == true) && true) = true → True)), (2, ((((bif z1 then (((a0.getD v1.toNat 0).toNat : Int) != (95 : Int)) else false) == true) && true) = true → True)), (0, ((((bif z1 then (((a0.getD v1.toNat 0).toNat : Int) != (95 : Int)) else false) == true) && true) = true → True)), (0, ((((bif z1 then (((a0.getD v1.toNat 0).toNat : Int) != (95 : Int)) else false) == true) && true) = true → 0 ≤ v1 ∧ v1 < a0.length)), (0, ((((bif z1 then (((a0.getD v1.toNat 0).toNat : Int) != (95 : Int)) else false) == true) && true) = true → True)), (0, (True) ∧ AV.d (.v (.bool (bif (bif z1 then (((a0.getD v1.toNat 0).toNat : Int) != (95 : Int)) else false) then (((a0.getD v1.toNat 0).toNat : Int) != (46 : Int)) else false))) = .d (.v (.bool z2)))] 0 (by kernel_rfl) (⟨hp1, ref3_letter_ok hy1, (fun hg => trivial), (fun hg => trivial), (fun hg => (hp2 hg)), (fun hg => ref3_digit_ok (gcall_ok hg hy2)), (fun hg => trivial), (fun hg => trivial), (fun hg => trivial), (fun hg => (hp3 hg)), (fun hg => trivial), ⟨trivial, (by subst hz1; rfl)⟩, (fun hg => trivial), (fun hg => trivial), (fun hg => (hp4 hg)), (fun hg => trivial), (fun hg => trivial), (fun hg => trivial), (fun hg => (hp5 hg)), (fun hg => trivial), ⟨trivial, (by subst hz2; rfl)⟩⟩) ?_
      refine T_cond z2 (by kernel_rfl) (fun hc => ?_) (fun hc => ?_)
      · have h := cond_tt hc h
        refine T_region [] [2] [] [(2, .d (.v (.int .i64 (5 : Int))))] [] 1 (by kernel_rfl) (trivial) ?_
        obtain hs := Option.some.inj h; subst hs
        have h := callE_esc hk1
        obtain hs := Option.some.inj h; subst hs
        refine T_ret fun a w hm => inBlock_ret (then_ret (then_ret (inBlock_ret (then_ret (then_ret (T_return (fr' := [(2, .d (.v (.int .i64 (5 : Int))))]) [2] (by kernel_rfl) [.keep [2]] (by kernel_rfl) (by kernel_rfl) (by kernel_rfl) (by show _ = _; kernel_rfl) (by exact trivial) a w hm))))))
      · have h := cond_ff hc h
        refine T_skip fun a w hm => inBlock_norm (then_norm (((?_ : T Tryd.prog e 43 _ _ _) a w hm)))
        refine T_region_end [] [0, 5, 6] [] [(0, .d (.str a0)), (5, .d (.v (.int .i64 (a0.length : Int)))), (6, .d (.v (.int .i64 (IntKind.i64.wrap (v1 + (1 : Int))))))] [] 2 (by kernel_rfl) (trivial) fun a w hm => then_norm (⟨IntKind.i64.wrap (v1 + (1 : Int)), h, hm.co (cs := [.keep [0, 5, 6]]) (by show _ = _; kernel_rfl)⟩)
    · have h := cond_ff hc h
      obtain hs := Option.some.inj h; subst hs
      refine T_exit fun a w hm => then_exit (then_exit (inBlock_exit (then_norm (⟨_, rfl, hm.co (cs := [.keep [0]]) (by show _ = _; kernel_rfl)⟩))))
  · skip
    refine fun a w hm => then_norm (((?_ : T Tryd.prog e 43 _ _ _) a w hm))
    refine T_seqk ?_
    refine T_region [] [42] [] [(42, .d (.v (.bool (decide ((a0.length : Int) > (31 : Int))))))] [] 3 (by kernel_rfl) (trivial) ?_
    refine T_cond (decide ((a0.length : Int) > (31 : Int))) (by kernel_rfl) (fun hc => ?_) (fun hc => ?_)
    · have h := cond_tt hc h
      refine T_region [] [2] [] [(2, .d (.v (.int .i64 (2 : Int))))] [] 1 (by kernel_rfl) (trivial) ?_
      obtain hs := Option.some.inj h; subst hs
      refine T_ret fun a w hm => then_ret (T_return (fr' := [(2, .d (.v (.int .i64 (2 : Int))))]) [2] (by kernel_rfl) [.keep [2]] (by kernel_rfl) (by kernel_rfl) (by kernel_rfl) (by show _ = _; kernel_rfl) (by exact trivial) a w hm)
    · have h := cond_ff hc h
      refine T_skip fun a w hm => then_norm (((?_ : T Tryd.prog e 43 _ _ _) a w hm))
      refine T_region [] [2] [] [(2, .d (.v (.int .i64 (0 : Int))))] [] 1 (by kernel_rfl) (trivial) ?_
      obtain hs := Option.some.inj h; subst hs
      refine T_ret fun a w hm => T_return (fr' := [(2, .d (.v (.int .i64 (0 : Int))))]) [2] (by kernel_rfl) [.keep [2]] (by kernel_rfl) (by kernel_rfl) (by kernel_rfl) (by show _ = _; kernel_rfl) (by exact trivial) a w hm

theorem ref3_Decimal_ok {F : Nat} {a0 : Int} {r : (List UInt8)} (h : ref3_Decimal F a0 = some r) : ACall Tryd.prog 54 [.d (.v (.int .i64 a0))] [] (.d (.str r)) [] := by
  rw [ref3_Decimal] at h
  refine ACall.intro (N := 31) Tryd.func54 rfl rfl rfl rfl rfl fun e => ?_
  refine T_region [] [0] [] [(0, .d (.v (.int .i64 a0)))] [] 1 (by kernel_rfl) (trivial) ?_
  refine T_seqk ?_
  refine T_region [] [0, 7] [] [(0, .d (.v (.int .i64 a0))), (7, .d (.v (.bool (a0 == (0 : Int)))))] [] 2 (by kernel_rfl) (trivial) ?_
  refine T_cond (a0 == (0 : Int)) (by kernel_rfl) (fun hc => ?_) (fun hc => ?_)
  · have h := cond_tt hc h
    refine T_region [] [2] [] [(2, .d (.str ([48] : List UInt8)))] [] 1 (by kernel_rfl) (trivial) ?_
    obtain hs := Option.some.inj h; subst hs
    refine T_ret fun a w hm => then_ret (T_return (fr' := [(2, .d (.str ([48] : List UInt8)))]) [2] (by kernel_rfl) [.keep [2]] (by kernel_rfl) (by kernel_rfl) (by kernel_rfl) (by show _ = _; kernel_rfl) (by exact trivial) a w hm)
  · have h := cond_ff hc h
    refine T_skip fun a w hm => then_norm (((?_ : T Tryd.prog e 31 _ _ _) a w hm))
    refine T_region [] [0, 3, 4] [] [(0, .d (.v (.int .i64 a0))), (3, .d (.str [])), (4, .d (.v (.bool (decide (a0 < (0 : Int))))))] [] 4 (by kernel_rfl) (trivial) ?_
    refine T_joinc h (fun (p : (List UInt8)) => [(3, .d (.str p)), (4, .d (.v (.bool (decide (a0 < (0 : Int))))))]) (fun s h => ?_) (fun v4 h => ?_)
    · refine T_co [.keep [0, 3, 4]] ((fun (p : Int × (List UInt8)) => [(0, .d (.v (.int .i64 p.1))), (3, .d (.str p.2)), (4, .d (.v (.bool (decide (a0 < (0 : Int))))))]) (a0, [])) (by show _ = _; kernel_rfl) ?_
      refine T_block ?_
      refine T_loopF (ι := Int × (List UInt8)) (fun (p : Int × (List UInt8)) => [(0, .d (.v (.int .i64 p.1))), (3, .d (.str p.2)), (4, .d (.v (.bool (decide (a0 < (0 : Int))))))]) (fun n p => ref3_Decimal_L0 F n p.1 p.2 = some s) (fun i hh => by simp [ref3_Decimal_L0] at hh) (fun n p h => ?_) F (a0, []) h
      obtain ⟨v1, v2⟩ := p
      have h : ref3_Decimal_L0 F (n + 1) v1 v2 = some s := h
      rw [ref3_Decimal_L0] at h
      refine T_seqk ?_
      refine T_region [] [0, 3, 4, 11] [] [(0, .d (.v (.int .i64 v1))), (3, .d (.str v2)), (4, .d (.v (.bool (decide (a0 < (0 : Int)))))), (11, .d (.v (.bool (v1 != (0 : Int)))))] [] 2 (by kernel_rfl) (trivial) ?_
      refine T_cond (v1 != (0 : Int)) (by kernel_rfl) (fun hc => ?_) (fun hc => ?_)
      · have h := cond_tt hc h
        refine T_skip fun a w hm => then_norm (((?_ : T Tryd.prog e 31 _ _ _) a w hm))
        refine T_block ?_
        refine T_region [] [0, 3, 4, 5] [] [(0, .d (.v (.int .i64 v1))), (3, .d (.str v2)), (4, .d (.v (.bool (decide (a0 < (0 : Int)))))), (5, .d (.v (.int .i64 (v1.tmod (10 : Int)))))] [(1, (10 : Int) ≠ 0)] 1 (by kernel_rfl) ((show (10 : Int) ≠ 0 by decide)) ?_
        refine T_joinc h (fun (p : Int) => [(0, .d (.v (.int .i64 v1))), (3, .d (.str v2)), (4, .d (.v (.bool (decide (a0 < (0 : Int)))))), (5, .d (.v (.int .i64 p)))]) (fun s h => ?_) (fun v3 h => ?_)
        · refine T_region [] [0, 3, 4, 5, 15] [] [(0, .d (.v (.int .i64 v1))), (3, .d (.str v2)), (4, .d (.v (.bool (decide (a0 < (0 : Int)))))), (5, .d (.v (.int .i64 (v1.tmod (10 : Int))))), (15, .d (.v (.bool (decide ((v1.tmod (10 : Int)) < (0 : Int))))))] [] 2 (by kernel_rfl) (trivial) ?_
          refine T_cond (decide ((v1.tmod (10 : Int)) < (0 : Int))) (by kernel_rfl) (fun hc => ?_) (fun hc => ?_)
          · have h := cond_tt hc h
            obtain hs := Option.some.inj h; subst hs
            refine T_region_end [] [0, 3, 4, 5] [] [(0, .d (.v (.int .i64 v1))), (3, .d (.str v2)), (4, .d (.v (.bool (decide (a0 < (0 : Int)))))), (5, .d (.v (.int .i64 (IntKind.i64.wrap (0 - (v1.tmod (10 : Int)))))))] [] 3 (by kernel_rfl) (trivial) fun a w hm => then_norm (hm.co (cs := [.keep [0, 3, 4, 5]]) (by show _ = _; kernel_rfl))
          · have h := cond_ff hc h
            obtain hs := Option.some.inj h; subst hs
            refine T_skip fun a w hm => then_norm (hm.co (cs := [.keep [0, 3, 4, 5]]) (by show _ = _; kernel_rfl))
        · skip
          obtain ⟨hp1, h⟩ := chk_ok h
          obtain ⟨hp2, h⟩ := chk_ok h
          refine T_region [(3, { es := some (([(UInt8.ofNat (IntKind.u8.wrap (IntKind.i64.wrap ((48 : Int) + v3))).toNat)]).map cU) }), (4, { cs := [.str ([(UInt8.ofNat (IntKind.u8.wrap (IntKind.i64.wrap ((48 : Int) + v3))).toNat)])] })] [0, 3, 4] [] [(0, .d (.v (.int .i64 v1))), (3, .d (.str (([(UInt8.ofNat (IntKind.u8.wrap (IntKind.i64.wrap ((48 : Int) + v3))).toNat)]) ++ v2))), (4, .d (.v (.bool (decide (a0 < (0 : Int))))))] [(3, [[Dat.v (.int .u8 (IntKind.u8.wrap (IntKind.i64.wrap ((48 : Int) + v3))))]] = (([(UInt8.ofNat (IntKind.u8.wrap (IntKind.i64.wrap ((48 : Int) + v3))).toNat)]).map cU)), (0, (([(UInt8.ofNat (IntKind.u8.wrap (IntKind.i64.wrap ((48 : Int) + v3))).toNat)]).map cU) = byteCells ([(UInt8.ofNat (IntKind.u8.wrap (IntKind.i64.wrap ((48 : Int) + v3))).toNat)])), (1, ([(UInt8.ofNat (IntKind.u8.wrap (IntKind.i64.wrap ((48 : Int) + v3))).toNat)]).length + v2.length ≤ 9223372036854775807)] 1 (by kernel_rfl) (⟨(lit_u hp1 (rfl : ([] : List (List Dat)) = ([] : List UInt8).map cU)), rfl, hp2⟩) ?_
          refine T_region_end [] [0, 3, 4] [] [(0, .d (.v (.int .i64 (IntKind.i64.wrap (v1.tdiv (10 : Int)))))), (3, .d (.str (([(UInt8.ofNat (IntKind.u8.wrap (IntKind.i64.wrap ((48 : Int) + v3))).toNat)]) ++ v2))), (4, .d (.v (.bool (decide (a0 < (0 : Int))))))] [(1, (10 : Int) ≠ 0)] 1 (by kernel_rfl) ((show (10 : Int) ≠ 0 by decide)) fun a w hm => inBlock_norm (then_norm (⟨(IntKind.i64.wrap (v1.tdiv (10 : Int)), (([(UInt8.ofNat (IntKind.u8.wrap (IntKind.i64.wrap ((48 : Int) + v3))).toNat)]) ++ v2)), h, hm.co (cs := [.keep [0, 3, 4]]) (by show _ = _; kernel_rfl)⟩))
      · have h := cond_ff hc h
        obtain hs := Option.some.inj h; subst hs
        refine T_exit fun a w hm => then_exit (then_exit (inBlock_exit (then_norm (hm.co (cs := [.keep [3, 4]]) (by show _ = _; kernel_rfl)))))
    · skip
      refine T_seqk ?_
      refine T_region [] [3, 27] [] [(3, .d (.str v4)), (27, .d (.v (.bool (decide (a0 < (0 : Int))))))] [] 1 (by kernel_rfl) (trivial) ?_
      refine T_cond (decide (a0 < (0 : Int))) (by kernel_rfl) (fun hc => ?_) (fun hc => ?_)
      · have h := cond_tt hc h
        obtain ⟨hp3, h⟩ := chk_ok h
        refine T_region [] [2] [] [(2, .d (.str (([45] : List UInt8) ++ v4)))] [(1, ([45] : List UInt8).length + v4.length ≤ 9223372036854775807)] 1 (by kernel_rfl) (hp3) ?_
        obtain hs := Option.some.inj h; subst hs
        refine T_ret fun a w hm => then_ret (T_return (fr' := [(2, .d (.str (([45] : List UInt8) ++ v4)))]) [2] (by kernel_rfl) [.keep [2]] (by kernel_rfl) (by kernel_rfl) (by kernel_rfl) (by show _ = _; kernel_rfl) (by exact trivial) a w hm)
      · have h := cond_ff hc h
        refine T_skip fun a w hm => then_norm (((?_ : T Tryd.prog e 31 _ _ _) a w hm))
        refine T_region [] [2] [] [(2, .d (.str v4))] [] 2 (by kernel_rfl) (trivial) ?_
        obtain hs := Option.some.inj h; subst hs
        refine T_ret fun a w hm => T_return (fr' := [(2, .d (.str v4))]) [2] (by kernel_rfl) [.keep [2]] (by kernel_rfl) (by kernel_rfl) (by kernel_rfl) (by show _ = _; kernel_rfl) (by exact trivial) a w hm

theorem ref3_Spelled_ok {F : Nat} {a0 : S_Token} {r : (List UInt8) × Int} (h : ref3_Spelled F a0 = some r) : ACall Tryd.prog 14 [.agg (cS_Token a0)] [] (.tup [.d (.str r.1), .d (.v (.int .i64 r.2))]) [] := by
  rw [ref3_Spelled] at h
  refine ACall.intro (N := 283) Tryd.func14 rfl rfl rfl rfl rfl fun e => ?_
  refine T_region [] [1] [] [(1, .box [.d (.v (.int .i64 a0.f0)), .d (.v (.int .i64 a0.f1)), .d (.str a0.f2), .d (.v (.int .i64 a0.f3)), .d (.v (.int .i64 a0.f4))])] [] 3 (by kernel_rfl) (trivial) ?_
  refine T_region [] [1, 4] [] [(1, .box [.d (.v (.int .i64 a0.f0)), .d (.v (.int .i64 a0.f1)), .d (.str a0.f2), .d (.v (.int .i64 a0.f3)), .d (.v (.int .i64 a0.f4))]), (4, .d (.v (.bool (bif (a0.f0 == (1 : Int)) then true else (a0.f0 == (4 : Int))))))] [(4, ((((a0.f0 == (1 : Int)) == false) && true) = true → True)), (0, ((((a0.f0 == (1 : Int)) == false) && true) = true → True)), (0, ((((a0.f0 == (1 : Int)) == false) && true) = true → True))] 2 (by kernel_rfl) (⟨(fun hg => trivial), (fun hg => trivial), (fun hg => trivial)⟩) ?_
  obtain ⟨z7, hz1, h⟩ := lett_ok h
  refine T_region [(12, { rw := some (.d (.v (.bool z7))) })] [1, 4, 5] [] [(1, .box [.d (.v (.int .i64 a0.f0)), .d (.v (.int .i64 a0.f1)), .d (.str a0.f2), .d (.v (.int .i64 a0.f3)), .d (.v (.int .i64 a0.f4))]), (4, .d (.v (.bool (bif (a0.f0 == (1 : Int)) then true else (a0.f0 == (4 : Int)))))), (5, .d (.v (.bool z7)))] [(4, ((((a0.f0 == (2 : Int)) == false) && true) = true → True)), (0, ((((a0.f0 == (2 : Int)) == false) && true) = true → True)), (0, ((((a0.f0 == (2 : Int)) == false) && true) = true → True)), (2, ((((bif (a0.f0 == (2 : Int)) then true else (a0.f0 == (3 : Int))) == false) && true) = true → True)), (0, ((((bif (a0.f0 == (2 : Int)) then true else (a0.f0 == (3 : Int))) == false) && true) = true → True)), (0, ((((bif (a0.f0 == (2 : Int)) then true else (a0.f0 == (3 : Int))) == false) && true) = true → True)), (0, (True) ∧ AV.d (.v (.bool (bif (bif (a0.f0 == (2 : Int)) then true else (a0.f0 == (3 : Int))) then true else (a0.f0 == (5 : Int))))) = .d (.v (.bool z7)))] 1 (by kernel_rfl) (⟨(fun hg => trivial), (fun hg => trivial), (fun hg => trivial), (fun hg => trivial), (fun hg => trivial), (fun hg => trivial), ⟨trivial, (by subst hz1; rfl)⟩⟩) ?_
  refine T_seqk ?_
  refine T_region [] [1, 4, 5, 41] [] [(1, .box [.d (.v (.int .i64 a0.f0)), .d (.v (.int .i64 a0.f1)), .d (.str a0.f2), .d (.v (.int .i64 a0.f3)), .d (.v (.int .i64 a0.f4))]), (4, .d (.v (.bool (bif (a0.f0 == (1 : Int)) then true else (a0.f0 == (4 : Int)))))), (5, .d (.v (.bool z7))), (41, .d (.v (.bool (bif (decide (a0.f0 < (1 : Int))) then true else (decide (a0.f0 > (9 : Int)))))))] [(4, ((((decide (a0.f0 < (1 : Int))) == false) && true) = true → True)), (0, ((((decide (a0.f0 < (1 : Int))) == false) && true) = true → True)), (0, ((((decide (a0.f0 < (1 : Int))) == false) && true) = true → True))] 1 (by kernel_rfl) (⟨(fun hg => trivial), (fun hg => trivial), (fun hg => trivial)⟩) ?_
  refine T_cond (bif (decide (a0.f0 < (1 : Int))) then true else (decide (a0.f0 > (9 : Int)))) (by kernel_rfl) (fun hc => ?_) (fun hc => ?_)
  · have h := cond_tt hc h
    refine T_region [] [2, 3] [] [(2, .d (.str [])), (3, .d (.v (.int .i64 (14 : Int))))] [] 2 (by kernel_rfl) (trivial) ?_
    obtain hs := Option.some.inj h; subst hs
    refine T_ret fun a w hm => then_ret (T_return (fr' := [(2, .d (.str [])), (3, .d (.v (.int .i64 (14 : Int))))]) [2, 3] (by kernel_rfl) [.keep [2, 3]] (by kernel_rfl) (by kernel_rfl) (by kernel_rfl) (by show _ = _; kernel_rfl) (by exact trivial) a w hm)
  · have h := cond_ff hc h
    refine T_skip fun a w hm => then_norm (((?_ : T Tryd.prog e 283 _ _ _) a w hm))
    refine T_seqk ?_
    obtain ⟨z8, hz2, h⟩ := lett_ok h
    refine T_region [(6, { rw := some (.d (.v (.bool z8))) })] [1, 57] [] [(1, .box [.d (.v (.int .i64 a0.f0)), .d (.v (.int .i64 a0.f1)), .d (.str a0.f2), .d (.v (.int .i64 a0.f3)), .d (.v (.int .i64 a0.f4))]), (57, .d (.v (.bool (bif z8 then true else (bif (!z7) then (!(a0.f2 == [])) else false)))))] [(3, ((((!(bif (a0.f0 == (1 : Int)) then true else (a0.f0 == (4 : Int)))) == true) && true) = true → True)), (0, ((((!(bif (a0.f0 == (1 : Int)) then true else (a0.f0 == (4 : Int)))) == true) && true) = true → True)), (0, ((((!(bif (a0.f0 == (1 : Int)) then true else (a0.f0 == (4 : Int)))) == true) && true) = true → True)), (0, (True) ∧ AV.d (.v (.bool (bif (!(bif (a0.f0 == (1 : Int)) then true else (a0.f0 == (4 : Int)))) then (a0.f1 != (0 : Int)) else false))) = .d (.v (.bool z8))), (1, (((z8 == false) && true) = true → True)), (0, (((z8 == false) && true) = true → True)), (0, (((z8 == false) && true) = true → True)), (0, ((((!z7) == true) && ((z8 == false) && true)) = true → True)), (0, ((((!z7) == true) && ((z8 == false) && true)) = true → True)), (0, ((((!z7) == true) && ((z8 == false) && true)) = true → True)), (0, (((z8 == false) && true) = true → True))] 1 (by kernel_rfl) (⟨(fun hg => trivial), (fun hg => trivial), (fun hg => trivial), ⟨trivial, (by subst hz2; rfl)⟩, (fun hg => trivial), (fun hg => trivial), (fun hg => trivial), (fun hg => trivial), (fun hg => trivial), (fun hg => trivial), (fun hg => trivial)⟩) ?_
    refine T_cond (bif z8 then true else (bif (!z7) then (!(a0.f2 == [])) else false)) (by kernel_rfl) (fun hc => ?_) (fun hc => ?_)
    · have h := cond_tt hc h
      refine T_region [] [2, 3] [] [(2, .d (.str [])), (3, .d (.v (.int .i64 (4 : Int))))] [] 2 (by kernel_rfl) (trivial) ?_
      obtain hs := Option.some.inj h; subst hs
      refine T_ret fun a w hm => then_ret (T_return (fr' := [(2, .d (.str [])), (3, .d (.v (.int .i64 (4 : Int))))]) [2, 3] (by kernel_rfl) [.keep [2, 3]] (by kernel_rfl) (by kernel_rfl) (by kernel_rfl) (by show _ = _; kernel_rfl) (by exact trivial) a w hm)
    · have h := cond_ff hc h
      refine T_skip fun a w hm => then_norm (((?_ : T Tryd.prog e 283 _ _ _) a w hm))
      refine T_joinE h (fun (p : Unit) => [(1, .box [.d (.v (.int .i64 a0.f0)), .d (.v (.int .i64 a0.f1)), .d (.str a0.f2), .d (.v (.int .i64 a0.f3)), .d (.v (.int .i64 a0.f4))])]) (fun s h hk1 => ?_) (fun s h => ?_)
      · refine T_region [] [1, 60] [] [(1, .box [.d (.v (.int .i64 a0.f0)), .d (.v (.int .i64 a0.f1)), .d (.str a0.f2), .d (.v (.int .i64 a0.f3)), .d (.v (.int .i64 a0.f4))]), (60, .d (.v (.bool (a0.f0 == (2 : Int)))))] [] 3 (by kernel_rfl) (trivial) ?_
        refine T_cond (a0.f0 == (2 : Int)) (by kernel_rfl) (fun hc => ?_) (fun hc => ?_)
        · have h := cond_tt hc h
          refine T_region [] [1, 6] [] [(1, .box [.d (.v (.int .i64 a0.f0)), .d (.v (.int .i64 a0.f1)), .d (.str a0.f2), .d (.v (.int .i64 a0.f3)), .d (.v (.int .i64 a0.f4))]), (6, .d (.v (.bool (a0.f2 == []))))] [] 4 (by kernel_rfl) (trivial) ?_
          refine T_seqk ?_
          refine T_region [] [1, 6, 66, 67] [] [(1, .box [.d (.v (.int .i64 a0.f0)), .d (.v (.int .i64 a0.f1)), .d (.str a0.f2), .d (.v (.int .i64 a0.f3)), .d (.v (.int .i64 a0.f4))]), (6, .d (.v (.bool (a0.f2 == [])))), (66, .d (.v (.int .i64 (a0.f2.length : Int)))), (67, .d (.v (.int .i64 (0 : Int))))] [] 4 (by kernel_rfl) (trivial) ?_
          refine T_joinct h (fun (p : Bool) => [(1, .box [.d (.v (.int .i64 a0.f0)), .d (.v (.int .i64 a0.f1)), .d (.str a0.f2), .d (.v (.int .i64 a0.f3)), .d (.v (.int .i64 a0.f4))]), (6, .d (.v (.bool p)))]) (fun s h => ?_) (fun v6 h => ?_)
          · refine T_co [.keep [1, 6, 66, 67]] ((fun (p : Bool × Int) => [(1, .box [.d (.v (.int .i64 a0.f0)), .d (.v (.int .i64 a0.f1)), .d (.str a0.f2), .d (.v (.int .i64 a0.f3)), .d (.v (.int .i64 a0.f4))]), (6, .d (.v (.bool p.1))), (66, .d (.v (.int .i64 (a0.f2.length : Int)))), (67, .d (.v (.int .i64 p.2)))]) ((a0.f2 == []), (0 : Int))) (by show _ = _; kernel_rfl) ?_
            refine T_block ?_
            refine T_loopF (ι := Bool × Int) (fun (p : Bool × Int) => [(1, .box [.d (.v (.int .i64 a0.f0)), .d (.v (.int .i64 a0.f1)), .d (.str a0.f2), .d (.v (.int .i64 a0.f3)), .d (.v (.int .i64 a0.f4))]), (6, .d (.v (.bool p.1))), (66, .d (.v (.int .i64 (a0.f2.length : Int)))), (67, .d (.v (.int .i64 p.2)))]) (fun n p => ref3_Spelled_L0 F a0 n p.1 p.2 = some s) (fun i hh => by simp [ref3_Spelled_L0] at hh) (fun n p h => ?_) F ((a0.f2 == []), (0 : Int)) h
            obtain ⟨v1, v2⟩ := p
            have h : ref3_Spelled_L0 F a0 (n + 1) v1 v2 = some s := h
            rw [ref3_Spelled_L0] at h
            refine T_region [] [1, 6, 66, 67, 68] [] [(1, .box [.d (.v (.int .i64 a0.f0)), .d (.v (.int .i64 a0.f1)), .d (.str a0.f2), .d (.v (.int .i64 a0.f3)), .d (.v (.int .i64 a0.f4))]), (6, .d (.v (.bool v1))), (66, .d (.v (.int .i64 (a0.f2.length : Int)))), (67, .d (.v (.int .i64 v2))), (68, .d (.v (.bool (decide (v2 < (a0.f2.length : Int))))))] [] 1 (by kernel_rfl) (trivial) ?_
            refine T_seqk ?_
            refine T_cond (decide (v2 < (a0.f2.length : Int))) (by kernel_rfl) (fun hc => ?_) (fun hc => ?_)
            · have h := cond_tt hc h
              refine T_skip fun a w hm => then_norm (((?_ : T Tryd.prog e 283 _ _ _) a w hm))
              refine T_seqk ?_
              refine T_block ?_
              refine T_region [] [1, 6, 7, 66, 67] [] [(1, .box [.d (.v (.int .i64 a0.f0)), .d (.v (.int .i64 a0.f1)), .d (.str a0.f2), .d (.v (.int .i64 a0.f3)), .d (.v (.int .i64 a0.f4))]), (6, .d (.v (.bool v1))), (7, .d (.v (.int .i64 v2))), (66, .d (.v (.int .i64 (a0.f2.length : Int)))), (67, .d (.v (.int .i64 v2)))] [] 2 (by kernel_rfl) (trivial) ?_
              obtain ⟨hp1, h⟩ := chk_ok h
              refine T_region_end [] [1, 6, 66, 67] [] [(1, .box [.d (.v (.int .i64 a0.f0)), .d (.v (.int .i64 a0.f1)), .d (.str a0.f2), .d (.v (.int .i64 a0.f3)), .d (.v (.int .i64 a0.f4))]), (6, .d (.v (.bool (bif v1 then true else (((a0.f2.getD v2.toNat 0).toNat : Int) == (0 : Int)))))), (66, .d (.v (.int .i64 (a0.f2.length : Int)))), (67, .d (.v (.int .i64 v2)))] [(2, (((v1 == false) && true) = true → True)), (0, (((v1 == false) && true) = true → True)), (0, (((v1 == false) && true) = true → True)), (0, (((v1 == false) && true) = true → 0 ≤ v2 ∧ v2 < a0.f2.length)), (0, (((v1 == false) && true) = true → True))] 2 (by kernel_rfl) (⟨(fun hg => trivial), (fun hg => trivial), (fun hg => trivial), (fun hg => (hp1 hg)), (fun hg => trivial)⟩) fun a w hm => inBlock_norm (then_norm (((?_ : T Tryd.prog e 283 _ _ _) a w hm)))
              refine T_region_end [] [1, 6, 66, 67] [] [(1, .box [.d (.v (.int .i64 a0.f0)), .d (.v (.int .i64 a0.f1)), .d (.str a0.f2), .d (.v (.int .i64 a0.f3)), .d (.v (.int .i64 a0.f4))]), (6, .d (.v (.bool (bif v1 then true else (((a0.f2.getD v2.toNat 0).toNat : Int) == (0 : Int)))))), (66, .d (.v (.int .i64 (a0.f2.length : Int)))), (67, .d (.v (.int .i64 (IntKind.i64.wrap (v2 + (1 : Int))))))] [] 2 (by kernel_rfl) (trivial) fun a w hm => then_norm (⟨((bif v1 then true else (((a0.f2.getD v2.toNat 0).toNat : Int) == (0 : Int))), IntKind.i64.wrap (v2 + (1 : Int))), h, hm.co (cs := [.keep [1, 6, 66, 67]]) (by show _ = _; kernel_rfl)⟩)
            · have h := cond_ff hc h
              obtain hs := Option.some.inj h; subst hs
              refine T_exit fun a w hm => then_exit (then_exit (inBlock_exit (then_norm (hm.co (cs := [.keep [1, 6]]) (by show _ = _; kernel_rfl)))))
          · skip
            refine fun a w hm => then_norm (((?_ : T Tryd.prog e 283 _ _ _) a w hm))
            refine T_region [] [1, 79] [] [(1, .box [.d (.v (.int .i64 a0.f0)), .d (.v (.int .i64 a0.f1)), .d (.str a0.f2), .d (.v (.int .i64 a0.f3)), .d (.v (.int .i64 a0.f4))]), (79, .d (.v (.bool v6)))] [] 1 (by kernel_rfl) (trivial) ?_
            refine T_cond v6 (by kernel_rfl) (fun hc => ?_) (fun hc => ?_)
            · have h := cond_tt hc h
              refine T_region [] [2, 3] [] [(2, .d (.str [])), (3, .d (.v (.int .i64 (4 : Int))))] [] 2 (by kernel_rfl) (trivial) ?_
              obtain hs := Option.some.inj h; subst hs
              have h := callE_esc hk1
              obtain hs := Option.some.inj h; subst hs
              refine T_ret fun a w hm => then_ret (T_return (fr' := [(2, .d (.str [])), (3, .d (.v (.int .i64 (4 : Int))))]) [2, 3] (by kernel_rfl) [.keep [2, 3]] (by kernel_rfl) (by kernel_rfl) (by kernel_rfl) (by show _ = _; kernel_rfl) (by exact trivial) a w hm)
            · have h := cond_ff hc h
              obtain hs := Option.some.inj h; subst hs
              refine T_skip fun a w hm => then_norm (⟨_, rfl, hm.co (cs := [.keep [1]]) (by show _ = _; kernel_rfl)⟩)
        · have h := cond_ff hc h
          obtain hs := Option.some.inj h; subst hs
          refine T_skip fun a w hm => then_norm (⟨_, rfl, hm.co (cs := [.keep [1]]) (by show _ = _; kernel_rfl)⟩)
      · skip
        refine T_seqk ?_
        obtain ⟨z9, hz3, h⟩ := lett_ok h
        obtain ⟨z10, hz4, h⟩ := lett_ok h
        refine T_region [(12, { rw := some (.d (.v (.bool z9))) }), (26, { rw := some (.d (.v (.bool z10))) })] [1, 107] [] [(1, .box [.d (.v (.int .i64 a0.f0)), .d (.v (.int .i64 a0.f1)), .d (.str a0.f2), .d (.v (.int .i64 a0.f3)), .d (.v (.int .i64 a0.f4))]), (107, .d (.v (.bool (bif z9 then true else z10))))] [(4, ((((a0.f0 == (1 : Int)) == true) && true) = true → True)), (0, ((((a0.f0 == (1 : Int)) == true) && true) = true → True)), (0, ((((a0.f0 == (1 : Int)) == true) && true) = true → True)), (0, ((((a0.f0 == (1 : Int)) == true) && true) = true → True)), (0, ((((decide (a0.f1 > (2147483647 : Int))) == false) && (((a0.f0 == (1 : Int)) == true) && true)) = true → True)), (0, ((((decide (a0.f1 > (2147483647 : Int))) == false) && (((a0.f0 == (1 : Int)) == true) && true)) = true → True)), (0, ((((decide (a0.f1 > (2147483647 : Int))) == false) && (((a0.f0 == (1 : Int)) == true) && true)) = true → True)), (0, ((((a0.f0 == (1 : Int)) == true) && true) = true → True)), (0, (True) ∧ AV.d (.v (.bool (bif (a0.f0 == (1 : Int)) then (bif (decide (a0.f1 > (2147483647 : Int))) then true else (decide (a0.f1 < (-2147483647 : Int)))) else false))) = .d (.v (.bool z9))), (1, (((z9 == false) && true) = true → True)), (0, (((z9 == false) && true) = true → True)), (0, (((z9 == false) && true) = true → True)), (0, (((z9 == false) && true) = true → True)), (0, ((((a0.f0 == (4 : Int)) == true) && ((z9 == false) && true)) = true → True)), (0, ((((a0.f0 == (4 : Int)) == true) && ((z9 == false) && true)) = true → True)), (0, ((((a0.f0 == (4 : Int)) == true) && ((z9 == false) && true)) = true → True)), (0, ((((a0.f0 == (4 : Int)) == true) && ((z9 == false) && true)) = true → True)), (0, ((((decide (a0.f1 > (255 : Int))) == false) && (((a0.f0 == (4 : Int)) == true) && ((z9 == false) && true))) = true → True)), (0, ((((decide (a0.f1 > (255 : Int))) == false) && (((a0.f0 == (4 : Int)) == true) && ((z9 == false) && true))) = true → True)), (0, ((((decide (a0.f1 > (255 : Int))) == false) && (((a0.f0 == (4 : Int)) == true) && ((z9 == false) && true))) = true → True)), (0, ((((a0.f0 == (4 : Int)) == true) && ((z9 == false) && true)) = true → True)), (0, (((z9 == false) && true) = true → (True) ∧ AV.d (.v (.bool (bif (a0.f0 == (4 : Int)) then (bif (decide (a0.f1 > (255 : Int))) then true else (decide (a0.f1 < (1 : Int)))) else false))) = .d (.v (.bool z10))))] 1 (by kernel_rfl) (⟨(fun hg => trivial), (fun hg => trivial), (fun hg => trivial), (fun hg => trivial), (fun hg => trivial), (fun hg => trivial), (fun hg => trivial), (fun hg => trivial), ⟨trivial, (by subst hz3; rfl)⟩, (fun hg => trivial), (fun hg => trivial), (fun hg => trivial), (fun hg => trivial), (fun hg => trivial), (fun hg => trivial), (fun hg => trivial), (fun hg => trivial), (fun hg => trivial), (fun hg => trivial), (fun hg => trivial), (fun hg => trivial), (fun hg => ⟨trivial, (by subst hz4; rfl)⟩)⟩) ?_
        refine T_cond (bif z9 then true else z10) (by kernel_rfl) (fun hc => ?_) (fun hc => ?_)
        · have h := cond_tt hc h
          refine T_region [] [2, 3] [] [(2, .d (.str [])), (3, .d (.v (.int .i64 (3 : Int))))] [] 2 (by kernel_rfl) (trivial) ?_
          obtain hs := Option.some.inj h; subst hs
          refine T_ret fun a w hm => then_ret (T_return (fr' := [(2, .d (.str [])), (3, .d (.v (.int .i64 (3 : Int))))]) [2, 3] (by kernel_rfl) [.keep [2, 3]] (by kernel_rfl) (by kernel_rfl) (by kernel_rfl) (by show _ = _; kernel_rfl) (by exact trivial) a w hm)
        · have h := cond_ff hc h
          refine T_skip fun a w hm => then_norm (((?_ : T Tryd.prog e 283 _ _ _) a w hm))
          refine T_seqk ?_
          obtain ⟨z11, hz5, h⟩ := lett_ok h
          refine T_region [(19, { rw := some (.d (.v (.bool z11))) })] [1, 127] [] [(1, .box [.d (.v (.int .i64 a0.f0)), .d (.v (.int .i64 a0.f1)), .d (.str a0.f2), .d (.v (.int .i64 a0.f3)), .d (.v (.int .i64 a0.f4))]), (127, .d (.v (.bool z11)))] [(4, ((((a0.f0 == (2 : Int)) == true) && true) = true → True)), (0, ((((a0.f0 == (2 : Int)) == true) && true) = true → True)), (0, ((((a0.f0 == (2 : Int)) == true) && true) = true → True)), (0, ((((a0.f0 == (2 : Int)) == true) && true) = true → True)), (2, ((((bif (a0.f0 == (2 : Int)) then (decide ((a0.f2.length : Int) > (31 : Int))) else false) == false) && true) = true → True)), (0, ((((bif (a0.f0 == (2 : Int)) then (decide ((a0.f2.length : Int) > (31 : Int))) else false) == false) && true) = true → True)), (0, ((((bif (a0.f0 == (2 : Int)) then (decide ((a0.f2.length : Int) > (31 : Int))) else false) == false) && true) = true → True)), (0, ((((bif (a0.f0 == (2 : Int)) then (decide ((a0.f2.length : Int) > (31 : Int))) else false) == false) && true) = true → True)), (0, ((((a0.f0 == (3 : Int)) == true) && (((bif (a0.f0 == (2 : Int)) then (decide ((a0.f2.length : Int) > (31 : Int))) else false) == false) && true)) = true → True)), (0, ((((a0.f0 == (3 : Int)) == true) && (((bif (a0.f0 == (2 : Int)) then (decide ((a0.f2.length : Int) > (31 : Int))) else false) == false) && true)) = true → True)), (0, ((((a0.f0 == (3 : Int)) == true) && (((bif (a0.f0 == (2 : Int)) then (decide ((a0.f2.length : Int) > (31 : Int))) else false) == false) && true)) = true → True)), (0, ((((a0.f0 == (3 : Int)) == true) && (((bif (a0.f0 == (2 : Int)) then (decide ((a0.f2.length : Int) > (31 : Int))) else false) == false) && true)) = true → True)), (0, ((((bif (a0.f0 == (2 : Int)) then (decide ((a0.f2.length : Int) > (31 : Int))) else false) == false) && true) = true → True)), (0, (True) ∧ AV.d (.v (.bool (bif (bif (a0.f0 == (2 : Int)) then (decide ((a0.f2.length : Int) > (31 : Int))) else false) then true else (bif (a0.f0 == (3 : Int)) then (decide ((a0.f2.length : Int) > (1024 : Int))) else false)))) = .d (.v (.bool z11)))] 0 (by kernel_rfl) (⟨(fun hg => trivial), (fun hg => trivial), (fun hg => trivial), (fun hg => trivial), (fun hg => trivial), (fun hg => trivial), (fun hg => trivial), (fun hg => trivial), (fun hg => trivial), (fun hg => trivial), (fun hg => trivial), (fun hg => trivial), (fun hg => trivial), ⟨trivial, (by subst hz5; rfl)⟩⟩) ?_
          refine T_cond z11 (by kernel_rfl) (fun hc => ?_) (fun hc => ?_)
          · have h := cond_tt hc h
            refine T_region [] [2, 3] [] [(2, .d (.str [])), (3, .d (.v (.int .i64 (2 : Int))))] [] 2 (by kernel_rfl) (trivial) ?_
            obtain hs := Option.some.inj h; subst hs
            refine T_ret fun a w hm => then_ret (T_return (fr' := [(2, .d (.str [])), (3, .d (.v (.int .i64 (2 : Int))))]) [2, 3] (by kernel_rfl) [.keep [2, 3]] (by kernel_rfl) (by kernel_rfl) (by kernel_rfl) (by show _ = _; kernel_rfl) (by exact trivial) a w hm)
          · have h := cond_ff hc h
            refine T_skip fun a w hm => then_norm (((?_ : T Tryd.prog e 283 _ _ _) a w hm))
            refine T_seqk ?_
            refine T_region [] [1, 130] [] [(1, .box [.d (.v (.int .i64 a0.f0)), .d (.v (.int .i64 a0.f1)), .d (.str a0.f2), .d (.v (.int .i64 a0.f3)), .d (.v (.int .i64 a0.f4))]), (130, .d (.v (.bool (a0.f0 == (5 : Int)))))] [] 3 (by kernel_rfl) (trivial) ?_
            refine T_cond (a0.f0 == (5 : Int)) (by kernel_rfl) (fun hc => ?_) (fun hc => ?_)
            · have h := cond_tt hc h
              refine T_seqk ?_
              obtain ⟨hp2, h⟩ := chk_ok h
              obtain ⟨y3, hy1, h⟩ := call_ok h
              obtain ⟨y4, hy2, h⟩ := call_ok h
              refine T_region [(7, { res := .d (.v (.bool y3)) }), (12, { res := .d (.v (.int .i64 y4)) })] [1, 145] [] [(1, .box [.d (.v (.int .i64 a0.f0)), .d (.v (.int .i64 a0.f1)), .d (.str a0.f2), .d (.v (.int .i64 a0.f3)), .d (.v (.int .i64 a0.f4))]), (145, .d (.v (.bool (bif (bif (a0.f2 == []) then true else y3) then true else (y4 == (5 : Int))))))] [(4, ((((a0.f2 == []) == false) && true) = true → True)), (0, ((((a0.f2 == []) == false) && true) = true → True)), (0, ((((a0.f2 == []) == false) && true) = true → 0 ≤ (0 : Int) ∧ (0 : Int) < a0.f2.length)), (0, ((((a0.f2 == []) == false) && true) = true → ACall Tryd.prog 52 [.d (.v (.int .u8 ((a0.f2.getD (0 : Int).toNat 0).toNat : Int)))] [] (.d (.v (.bool y3))) [])), (2, ((((bif (a0.f2 == []) then true else y3) == false) && true) = true → True)), (0, ((((bif (a0.f2 == []) then true else y3) == false) && true) = true → True)), (0, ((((bif (a0.f2 == []) then true else y3) == false) && true) = true → ACall Tryd.prog 53 [.d (.str a0.f2)] [] (.d (.v (.int .i64 y4))) [])), (0, ((((bif (a0.f2 == []) then true else y3) == false) && true) = true → True))] 1 (by kernel_rfl) (⟨(fun hg => trivial), (fun hg => trivial), (fun hg => (hp2 hg)), (fun hg => ref3_digit_ok (gcall_ok hg hy1)), (fun hg => trivial), (fun hg => trivial), (fun hg => ref3_wordError_ok (gcall_ok hg hy2)), (fun hg => trivial)⟩) ?_
              refine T_cond (bif (bif (a0.f2 == []) then true else y3) then true else (y4 == (5 : Int))) (by kernel_rfl) (fun hc => ?_) (fun hc => ?_)
              · have h := cond_tt hc h
                refine T_region [] [2, 3] [] [(2, .d (.str [])), (3, .d (.v (.int .i64 (4 : Int))))] [] 2 (by kernel_rfl) (trivial) ?_
                obtain hs := Option.some.inj h; subst hs
                refine T_ret fun a w hm => then_ret (then_ret (T_return (fr' := [(2, .d (.str [])), (3, .d (.v (.int .i64 (4 : Int))))]) [2, 3] (by kernel_rfl) [.keep [2, 3]] (by kernel_rfl) (by kernel_rfl) (by kernel_rfl) (by show _ = _; kernel_rfl) (by exact trivial) a w hm))
              · have h := cond_ff hc h
                refine T_skip fun a w hm => then_norm (((?_ : T Tryd.prog e 283 _ _ _) a w hm))
                refine T_seqk ?_
                obtain ⟨y5, hy3, h⟩ := call_ok h
                refine T_region [(2, { res := .d (.v (.int .i64 y5)) })] [1, 8] [] [(1, .box [.d (.v (.int .i64 a0.f0)), .d (.v (.int .i64 a0.f1)), .d (.str a0.f2), .d (.v (.int .i64 a0.f3)), .d (.v (.int .i64 a0.f4))]), (8, .d (.v (.int .i64 y5)))] [(2, ACall Tryd.prog 53 [.d (.str a0.f2)] [] (.d (.v (.int .i64 y5))) [])] 1 (by kernel_rfl) (ref3_wordError_ok hy3) ?_
                refine T_region [] [1, 8, 150] [] [(1, .box [.d (.v (.int .i64 a0.f0)), .d (.v (.int .i64 a0.f1)), .d (.str a0.f2), .d (.v (.int .i64 a0.f3)), .d (.v (.int .i64 a0.f4))]), (8, .d (.v (.int .i64 y5))), (150, .d (.v (.bool (y5 != (0 : Int)))))] [] 2 (by kernel_rfl) (trivial) ?_
                refine T_cond (y5 != (0 : Int)) (by kernel_rfl) (fun hc => ?_) (fun hc => ?_)
                · have h := cond_tt hc h
                  refine T_region [] [2, 3] [] [(2, .d (.str [])), (3, .d (.v (.int .i64 y5)))] [] 3 (by kernel_rfl) (trivial) ?_
                  obtain hs := Option.some.inj h; subst hs
                  refine T_ret fun a w hm => then_ret (then_ret (T_return (fr' := [(2, .d (.str [])), (3, .d (.v (.int .i64 y5)))]) [2, 3] (by kernel_rfl) [.keep [2, 3]] (by kernel_rfl) (by kernel_rfl) (by kernel_rfl) (by show _ = _; kernel_rfl) (by exact trivial) a w hm))
                · have h := cond_ff hc h
                  refine T_skip fun a w hm => then_norm (((?_ : T Tryd.prog e 283 _ _ _) a w hm))
                  refine T_region [] [2, 3] [] [(2, .d (.str a0.f2)), (3, .d (.v (.int .i64 (0 : Int))))] [] 4 (by kernel_rfl) (trivial) ?_
                  obtain hs := Option.some.inj h; subst hs
                  refine T_ret fun a w hm => then_ret (T_return (fr' := [(2, .d (.str a0.f2)), (3, .d (.v (.int .i64 (0 : Int))))]) [2, 3] (by kernel_rfl) [.keep [2, 3]] (by kernel_rfl) (by kernel_rfl) (by kernel_rfl) (by show _ = _; kernel_rfl) (by exact trivial) a w hm)
            · have h := cond_ff hc h
              refine T_skip fun a w hm => then_norm (((?_ : T Tryd.prog e 283 _ _ _) a w hm))
              refine T_seqk ?_
              refine T_region [] [1, 155] [] [(1, .box [.d (.v (.int .i64 a0.f0)), .d (.v (.int .i64 a0.f1)), .d (.str a0.f2), .d (.v (.int .i64 a0.f3)), .d (.v (.int .i64 a0.f4))]), (155, .d (.v (.int .i64 a0.f0)))] [] 2 (by kernel_rfl) (trivial) ?_
              refine T_block ?_
              refine T_region [] [1, 155, 156] [] [(1, .box [.d (.v (.int .i64 a0.f0)), .d (.v (.int .i64 a0.f1)), .d (.str a0.f2), .d (.v (.int .i64 a0.f3)), .d (.v (.int .i64 a0.f4))]), (155, .d (.v (.int .i64 a0.f0))), (156, .d (.v (.bool (a0.f0 == (1 : Int)))))] [] 2 (by kernel_rfl) (trivial) ?_
              refine T_cond (a0.f0 == (1 : Int)) (by kernel_rfl) (fun hc => ?_) (fun hc => ?_)
              · have h := cond_tt hc h
                obtain ⟨y6, hy4, h⟩ := call_ok h
                refine T_region [(2, { res := .d (.str y6) })] [2, 3] [] [(2, .d (.str y6)), (3, .d (.v (.int .i64 (0 : Int))))] [(2, ACall Tryd.prog 54 [.d (.v (.int .i64 a0.f1))] [] (.d (.str y6)) [])] 2 (by kernel_rfl) (ref3_Decimal_ok hy4) ?_
                obtain hs := Option.some.inj h; subst hs
                refine T_ret fun a w hm => inBlock_ret (then_ret (T_return (fr' := [(2, .d (.str y6)), (3, .d (.v (.int .i64 (0 : Int))))]) [2, 3] (by kernel_rfl) [.keep [2, 3]] (by kernel_rfl) (by kernel_rfl) (by kernel_rfl) (by show _ = _; kernel_rfl) (by exact trivial) a w hm))
              · have h := cond_ff hc h
                refine T_region [] [1, 155, 161] [] [(1, .box [.d (.v (.int .i64 a0.f0)), .d (.v (.int .i64 a0.f1)), .d (.str a0.f2), .d (.v (.int .i64 a0.f3)), .d (.v (.int .i64 a0.f4))]), (155, .d (.v (.int .i64 a0.f0))), (161, .d (.v (.bool (a0.f0 == (4 : Int)))))] [] 2 (by kernel_rfl) (trivial) ?_
                refine T_cond (a0.f0 == (4 : Int)) (by kernel_rfl) (fun hc => ?_) (fun hc => ?_)
                · have h := cond_tt hc h
                  obtain ⟨y7, hy5, h⟩ := call_ok h
                  obtain ⟨hp3, h⟩ := chk_ok h
                  refine T_region [(2, { res := .d (.str y7) })] [2, 3] [] [(2, .d (.str (([64] : List UInt8) ++ y7))), (3, .d (.v (.int .i64 (0 : Int))))] [(2, ACall Tryd.prog 54 [.d (.v (.int .i64 a0.f1))] [] (.d (.str y7)) []), (0, ([64] : List UInt8).length + y7.length ≤ 9223372036854775807)] 2 (by kernel_rfl) (⟨ref3_Decimal_ok hy5, hp3⟩) ?_
                  obtain hs := Option.some.inj h; subst hs
                  refine T_ret fun a w hm => inBlock_ret (then_ret (T_return (fr' := [(2, .d (.str (([64] : List UInt8) ++ y7))), (3, .d (.v (.int .i64 (0 : Int))))]) [2, 3] (by kernel_rfl) [.keep [2, 3]] (by kernel_rfl) (by kernel_rfl) (by kernel_rfl) (by show _ = _; kernel_rfl) (by exact trivial) a w hm))
                · have h := cond_ff hc h
                  refine T_region [] [1, 155, 167] [] [(1, .box [.d (.v (.int .i64 a0.f0)), .d (.v (.int .i64 a0.f1)), .d (.str a0.f2), .d (.v (.int .i64 a0.f3)), .d (.v (.int .i64 a0.f4))]), (155, .d (.v (.int .i64 a0.f0))), (167, .d (.v (.bool (a0.f0 == (6 : Int)))))] [] 2 (by kernel_rfl) (trivial) ?_
                  refine T_cond (a0.f0 == (6 : Int)) (by kernel_rfl) (fun hc => ?_) (fun hc => ?_)
                  · have h := cond_tt hc h
                    refine T_region [] [2, 3] [] [(2, .d (.str ([91] : List UInt8))), (3, .d (.v (.int .i64 (0 : Int))))] [] 2 (by kernel_rfl) (trivial) ?_
                    obtain hs := Option.some.inj h; subst hs
                    refine T_ret fun a w hm => inBlock_ret (then_ret (T_return (fr' := [(2, .d (.str ([91] : List UInt8))), (3, .d (.v (.int .i64 (0 : Int))))]) [2, 3] (by kernel_rfl) [.keep [2, 3]] (by kernel_rfl) (by kernel_rfl) (by kernel_rfl) (by show _ = _; kernel_rfl) (by exact trivial) a w hm))
                  · have h := cond_ff hc h
                    refine T_region [] [1, 155, 169] [] [(1, .box [.d (.v (.int .i64 a0.f0)), .d (.v (.int .i64 a0.f1)), .d (.str a0.f2), .d (.v (.int .i64 a0.f3)), .d (.v (.int .i64 a0.f4))]), (155, .d (.v (.int .i64 a0.f0))), (169, .d (.v (.bool (a0.f0 == (7 : Int)))))] [] 2 (by kernel_rfl) (trivial) ?_
                    refine T_cond (a0.f0 == (7 : Int)) (by kernel_rfl) (fun hc => ?_) (fun hc => ?_)
                    · have h := cond_tt hc h
                      refine T_region [] [2, 3] [] [(2, .d (.str ([93] : List UInt8))), (3, .d (.v (.int .i64 (0 : Int))))] [] 2 (by kernel_rfl) (trivial) ?_
                      obtain hs := Option.some.inj h; subst hs
                      refine T_ret fun a w hm => inBlock_ret (then_ret (T_return (fr' := [(2, .d (.str ([93] : List UInt8))), (3, .d (.v (.int .i64 (0 : Int))))]) [2, 3] (by kernel_rfl) [.keep [2, 3]] (by kernel_rfl) (by kernel_rfl) (by kernel_rfl) (by show _ = _; kernel_rfl) (by exact trivial) a w hm))
                    · have h := cond_ff hc h
                      refine T_region [] [1, 155, 171] [] [(1, .box [.d (.v (.int .i64 a0.f0)), .d (.v (.int .i64 a0.f1)), .d (.str a0.f2), .d (.v (.int .i64 a0.f3)), .d (.v (.int .i64 a0.f4))]), (155, .d (.v (.int .i64 a0.f0))), (171, .d (.v (.bool (a0.f0 == (8 : Int)))))] [] 2 (by kernel_rfl) (trivial) ?_
                      refine T_cond (a0.f0 == (8 : Int)) (by kernel_rfl) (fun hc => ?_) (fun hc => ?_)
                      · have h := cond_tt hc h
                        refine T_region [] [2, 3] [] [(2, .d (.str ([60, 60] : List UInt8))), (3, .d (.v (.int .i64 (0 : Int))))] [] 2 (by kernel_rfl) (trivial) ?_
                        obtain hs := Option.some.inj h; subst hs
                        refine T_ret fun a w hm => inBlock_ret (then_ret (T_return (fr' := [(2, .d (.str ([60, 60] : List UInt8))), (3, .d (.v (.int .i64 (0 : Int))))]) [2, 3] (by kernel_rfl) [.keep [2, 3]] (by kernel_rfl) (by kernel_rfl) (by kernel_rfl) (by show _ = _; kernel_rfl) (by exact trivial) a w hm))
                      · have h := cond_ff hc h
                        refine T_region [] [1, 173] [] [(1, .box [.d (.v (.int .i64 a0.f0)), .d (.v (.int .i64 a0.f1)), .d (.str a0.f2), .d (.v (.int .i64 a0.f3)), .d (.v (.int .i64 a0.f4))]), (173, .d (.v (.bool (a0.f0 == (9 : Int)))))] [] 2 (by kernel_rfl) (trivial) ?_
                        refine T_cond (a0.f0 == (9 : Int)) (by kernel_rfl) (fun hc => ?_) (fun hc => ?_)
                        · have h := cond_tt hc h
                          refine T_region [] [2, 3] [] [(2, .d (.str ([62, 62] : List UInt8))), (3, .d (.v (.int .i64 (0 : Int))))] [] 2 (by kernel_rfl) (trivial) ?_
                          obtain hs := Option.some.inj h; subst hs
                          refine T_ret fun a w hm => inBlock_ret (then_ret (T_return (fr' := [(2, .d (.str ([62, 62] : List UInt8))), (3, .d (.v (.int .i64 (0 : Int))))]) [2, 3] (by kernel_rfl) [.keep [2, 3]] (by kernel_rfl) (by kernel_rfl) (by kernel_rfl) (by show _ = _; kernel_rfl) (by exact trivial) a w hm))
                        · have h := cond_ff hc h
                          refine T_skip fun a w hm => inBlock_norm (then_norm (((?_ : T Tryd.prog e 283 _ _ _) a w hm)))
                          refine T_region [] [1, 9] [] [(1, .box [.d (.v (.int .i64 a0.f0)), .d (.v (.int .i64 a0.f1)), .d (.str a0.f2), .d (.v (.int .i64 a0.f3)), .d (.v (.int .i64 a0.f4))]), (9, .own 5 1 ([].map cU))] [] 1 (by kernel_rfl) (trivial) ?_
                          refine T_seqk ?_
                          refine T_region [] [1, 9, 177, 178] [] [(1, .box [.d (.v (.int .i64 a0.f0)), .d (.v (.int .i64 a0.f1)), .d (.str a0.f2), .d (.v (.int .i64 a0.f3)), .d (.v (.int .i64 a0.f4))]), (9, .own 5 1 ([].map cU)), (177, .d (.v (.int .i64 (a0.f2.length : Int)))), (178, .d (.v (.int .i64 (0 : Int))))] [] 4 (by kernel_rfl) (trivial) ?_
                          refine T_joinct h (fun (p : (List UInt8)) => [(1, .box [.d (.v (.int .i64 a0.f0)), .d (.v (.int .i64 a0.f1)), .d (.str a0.f2), .d (.v (.int .i64 a0.f3)), .d (.v (.int .i64 a0.f4))]), (9, .own 5 1 (p.map cU))]) (fun s h => ?_) (fun v7 h => ?_)
                          · refine T_co [.keep [1, 9, 177, 178]] ((fun (p : (List UInt8) × Int) => [(1, .box [.d (.v (.int .i64 a0.f0)), .d (.v (.int .i64 a0.f1)), .d (.str a0.f2), .d (.v (.int .i64 a0.f3)), .d (.v (.int .i64 a0.f4))]), (9, .own 5 1 (p.1.map cU)), (177, .d (.v (.int .i64 (a0.f2.length : Int)))), (178, .d (.v (.int .i64 p.2)))]) ([], (0 : Int))) (by show _ = _; kernel_rfl) ?_
                            refine T_block ?_
                            refine T_loopF (ι := (List UInt8) × Int) (fun (p : (List UInt8) × Int) => [(1, .box [.d (.v (.int .i64 a0.f0)), .d (.v (.int .i64 a0.f1)), .d (.str a0.f2), .d (.v (.int .i64 a0.f3)), .d (.v (.int .i64 a0.f4))]), (9, .own 5 1 (p.1.map cU)), (177, .d (.v (.int .i64 (a0.f2.length : Int)))), (178, .d (.v (.int .i64 p.2)))]) (fun n p => ref3_Spelled_L3 F a0 n p.1 p.2 = some s) (fun i hh => by simp [ref3_Spelled_L3] at hh) (fun n p h => ?_) F ([], (0 : Int)) h
                            obtain ⟨v3, v4⟩ := p
                            have h : ref3_Spelled_L3 F a0 (n + 1) v3 v4 = some s := h
                            rw [ref3_Spelled_L3] at h
                            refine T_region [] [1, 9, 177, 178, 179] [] [(1, .box [.d (.v (.int .i64 a0.f0)), .d (.v (.int .i64 a0.f1)), .d (.str a0.f2), .d (.v (.int .i64 a0.f3)), .d (.v (.int .i64 a0.f4))]), (9, .own 5 1 (v3.map cU)), (177, .d (.v (.int .i64 (a0.f2.length : Int)))), (178, .d (.v (.int .i64 v4))), (179, .d (.v (.bool (decide (v4 < (a0.f2.length : Int))))))] [] 1 (by kernel_rfl) (trivial) ?_
                            refine T_seqk ?_
                            refine T_cond (decide (v4 < (a0.f2.length : Int))) (by kernel_rfl) (fun hc => ?_) (fun hc => ?_)
                            · have h := cond_tt hc h
                              refine T_skip fun a w hm => then_norm (((?_ : T Tryd.prog e 283 _ _ _) a w hm))
                              refine T_joinc h (fun (p : (List UInt8)) => [(1, .box [.d (.v (.int .i64 a0.f0)), .d (.v (.int .i64 a0.f1)), .d (.str a0.f2), .d (.v (.int .i64 a0.f3)), .d (.v (.int .i64 a0.f4))]), (9, .own 5 1 (p.map cU)), (177, .d (.v (.int .i64 (a0.f2.length : Int)))), (178, .d (.v (.int .i64 v4)))]) (fun s h => ?_) (fun v5 h => ?_)
                              · refine T_block ?_
                                refine T_region [] [1, 9, 10, 177, 178] [] [(1, .box [.d (.v (.int .i64 a0.f0)), .d (.v (.int .i64 a0.f1)), .d (.str a0.f2), .d (.v (.int .i64 a0.f3)), .d (.v (.int .i64 a0.f4))]), (9, .own 5 1 (v3.map cU)), (10, .d (.v (.int .i64 v4))), (177, .d (.v (.int .i64 (a0.f2.length : Int)))), (178, .d (.v (.int .i64 v4)))] [] 2 (by kernel_rfl) (trivial) ?_
                                obtain ⟨hp4, h⟩ := chk_ok h
                                refine T_region [] [1, 9, 11, 177, 178] [] [(1, .box [.d (.v (.int .i64 a0.f0)), .d (.v (.int .i64 a0.f1)), .d (.str a0.f2), .d (.v (.int .i64 a0.f3)), .d (.v (.int .i64 a0.f4))]), (9, .own 5 1 (v3.map cU)), (11, .d (.v (.int .u8 ((a0.f2.getD v4.toNat 0).toNat : Int)))), (177, .d (.v (.int .i64 (a0.f2.length : Int)))), (178, .d (.v (.int .i64 v4)))] [(3, 0 ≤ v4 ∧ v4 < a0.f2.length)] 1 (by kernel_rfl) (hp4) ?_
                                obtain ⟨hp5, h⟩ := chk_ok h
                                obtain ⟨z1, hz6, h⟩ := lett_ok h
                                obtain ⟨hp6, h⟩ := chk_ok h
                                obtain ⟨z2, hz7, h⟩ := lett_ok h
                                obtain ⟨hp7, h⟩ := chk_ok h
                                obtain ⟨hp8, h⟩ := chk_ok h
                                refine T_drawX mixed 1 (.take 0 (.take 1 (.take 2 (.take 3 (.take 4 (.take 5 (.all (.alt 6 (.take 7 .done) .stop)))))))) ([0, 1, 2, 0, 8, 16, 36, 127], [0, 1, 2, 0, 8, 16, 36, 64]) 191 [(2, { rw := some (.d (.v (.int .u8 z1))) }), (5, { rw := some (.d (.v (.int .u8 z2))) }), (6, { es := some (([(UInt8.ofNat z1.toNat), (UInt8.ofNat z2.toNat)]).map cU) })] [1, 9, 11, 12, 177, 178] [] [(1, .box [.d (.v (.int .i64 a0.f0)), .d (.v (.int .i64 a0.f1)), .d (.str a0.f2), .d (.v (.int .i64 a0.f3)), .d (.v (.int .i64 a0.f4))]), (9, .own 5 1 (v3.map cU)), (11, .d (.v (.int .u8 ((a0.f2.getD v4.toNat 0).toNat : Int)))), (12, .own 5 1 (([(UInt8.ofNat z1.toNat), (UInt8.ofNat z2.toNat)]).map cU)), (177, .d (.v (.int .i64 (a0.f2.length : Int)))), (178, .d (.v (.int .i64 v4)))] ((fun (o1 : Prop) => fun (o2 : Prop) => fun (o4 : Prop) => fun (o5 : Prop) => fun (o6 : Prop) => [(1, o1), (0, o2), (1, o4), (0, o5), (0, o6)]) ((16 : Int) ≠ 0) ((0 ≤ (IntKind.u8.wrap (((a0.f2.getD v4.toNat 0).toNat : Int).tdiv (16 : Int))) ∧ (IntKind.u8.wrap (((a0.f2.getD v4.toNat 0).toNat : Int).tdiv (16 : Int))) < ([48, 49, 50, 51, 52, 53, 54, 55, 56, 57, 97, 98, 99, 100, 101, 102] : List UInt8).length) ∧ AV.d (.v (.int .u8 ((([48, 49, 50, 51, 52, 53, 54, 55, 56, 57, 97, 98, 99, 100, 101, 102] : List UInt8).getD (IntKind.u8.wrap (((a0.f2.getD v4.toNat 0).toNat : Int).tdiv (16 : Int))).toNat 0).toNat : Int))) = .d (.v (.int .u8 z1))) ((16 : Int) ≠ 0) ((0 ≤ (((a0.f2.getD v4.toNat 0).toNat : Int).tmod (16 : Int)) ∧ (((a0.f2.getD v4.toNat 0).toNat : Int).tmod (16 : Int)) < ([48, 49, 50, 51, 52, 53, 54, 55, 56, 57, 97, 98, 99, 100, 101, 102] : List UInt8).length) ∧ AV.d (.v (.int .u8 ((([48, 49, 50, 51, 52, 53, 54, 55, 56, 57, 97, 98, 99, 100, 101, 102] : List UInt8).getD (((a0.f2.getD v4.toNat 0).toNat : Int).tmod (16 : Int)).toNat 0).toNat : Int))) = .d (.v (.int .u8 z2))) ([[Dat.v (.int .u8 z1)], [Dat.v (.int .u8 z2)]] = (([(UInt8.ofNat z1.toNat), (UInt8.ofNat z2.toNat)]).map cU))) 1 (by kernel_rfl) (by kernel_rfl) (by kernel_rfl) (have p1 := (show (16 : Int) ≠ 0 by decide); have p2 := ⟨hp5, (by subst hz6; rfl)⟩; have p4 := (show (16 : Int) ≠ 0 by decide); have p5 := ⟨hp6, (by subst hz7; rfl)⟩; have p6 := (lit_u hp7 (lit_u hp8 (rfl : ([] : List (List Dat)) = ([] : List UInt8).map cU))); ⟨p1, p2, p4, p5, p6⟩) ?_
                                refine T_block ?_
                                obtain ⟨y1, hy6, h⟩ := call_ok h
                                obtain ⟨y2, hy7, h⟩ := call_ok h
                                obtain ⟨z3, hz8, h⟩ := lett_ok h
                                obtain ⟨z4, hz9, h⟩ := lett_ok h
                                refine T_region [(5, { res := .d (.v (.bool y1)) }), (8, { res := .d (.v (.bool y2)) }), (13, { rw := some (.d (.v (.bool z3))) }), (21, { rw := some (.d (.v (.bool z4))) })] [1, 9, 11, 12, 177, 178, 196] [] [(1, .box [.d (.v (.int .i64 a0.f0)), .d (.v (.int .i64 a0.f1)), .d (.str a0.f2), .d (.v (.int .i64 a0.f3)), .d (.v (.int .i64 a0.f4))]), (9, .own 5 1 (v3.map cU)), (11, .d (.v (.int .u8 ((a0.f2.getD v4.toNat 0).toNat : Int)))), (12, .own 5 1 (([(UInt8.ofNat z1.toNat), (UInt8.ofNat z2.toNat)]).map cU)), (177, .d (.v (.int .i64 (a0.f2.length : Int)))), (178, .d (.v (.int .i64 v4))), (196, .d (.v (.bool (bif (a0.f0 == (2 : Int)) then z4 else false))))] [(4, ((((a0.f0 == (2 : Int)) == true) && true) = true → True)), (0, ((((a0.f0 == (2 : Int)) == true) && true) = true → ACall Tryd.prog 55 [.d (.v (.int .u8 ((a0.f2.getD v4.toNat 0).toNat : Int)))] [] (.d (.v (.bool y1))) [])), (0, ((((a0.f0 == (2 : Int)) == true) && true) = true → True)), (0, (((y1 == false) && (((a0.f0 == (2 : Int)) == true) && true)) = true → True)), (0, (((y1 == false) && (((a0.f0 == (2 : Int)) == true) && true)) = true → ACall Tryd.prog 52 [.d (.v (.int .u8 ((a0.f2.getD v4.toNat 0).toNat : Int)))] [] (.d (.v (.bool y2))) [])), (0, ((((a0.f0 == (2 : Int)) == true) && true) = true → True)), (0, ((((a0.f0 == (2 : Int)) == true) && true) = true → True)), (0, ((((bif y1 then true else y2) == false) && (((a0.f0 == (2 : Int)) == true) && true)) = true → True)), (0, ((((bif y1 then true else y2) == false) && (((a0.f0 == (2 : Int)) == true) && true)) = true → True)), (0, ((((a0.f0 == (2 : Int)) == true) && true) = true → (True) ∧ AV.d (.v (.bool (bif (bif y1 then true else y2) then true else (((a0.f2.getD v4.toNat 0).toNat : Int) == (95 : Int))))) = .d (.v (.bool z3)))), (0, ((((a0.f0 == (2 : Int)) == true) && true) = true → True)), (0, (((z3 == false) && (((a0.f0 == (2 : Int)) == true) && true)) = true → True)), (0, (((z3 == false) && (((a0.f0 == (2 : Int)) == true) && true)) = true → True)), (0, ((((a0.f0 == (2 : Int)) == true) && true) = true → True)), (0, ((((a0.f0 == (2 : Int)) == true) && true) = true → True)), (0, ((((bif z3 then true else (((a0.f2.getD v4.toNat 0).toNat : Int) == (45 : Int))) == false) && (((a0.f0 == (2 : Int)) == true) && true)) = true → True)), (0, ((((bif z3 then true else (((a0.f2.getD v4.toNat 0).toNat : Int) == (45 : Int))) == false) && (((a0.f0 == (2 : Int)) == true) && true)) = true → True)), (0, ((((a0.f0 == (2 : Int)) == true) && true) = true → (True) ∧ AV.d (.v (.bool (bif (bif z3 then true else (((a0.f2.getD v4.toNat 0).toNat : Int) == (45 : Int))) then true else (((a0.f2.getD v4.toNat 0).toNat : Int) == (46 : Int))))) = .d (.v (.bool z4))))] 2 (by kernel_rfl) (⟨(fun hg => trivial), (fun hg => ref3_letter_ok (gcall_ok hg hy6)), (fun hg => trivial), (fun hg => trivial), (fun hg => ref3_digit_ok (gcall_ok hg hy7)), (fun hg => trivial), (fun hg => trivial), (fun hg => trivial), (fun hg => trivial), (fun hg => ⟨trivial, (by subst hz8; rfl)⟩), (fun hg => trivial), (fun hg => trivial), (fun hg => trivial), (fun hg => trivial), (fun hg => trivial), (fun hg => trivial), (fun hg => trivial), (fun hg => ⟨trivial, (by subst hz9; rfl)⟩)⟩) ?_
                                refine T_cond (bif (a0.f0 == (2 : Int)) then z4 else false) (by kernel_rfl) (fun hc => ?_) (fun hc => ?_)
                                · have h := cond_tt hc h
                                  obtain ⟨hp9, h⟩ := chk_ok h
                                  obtain ⟨hp10, h⟩ := chk_ok h
                                  obtain hs := Option.some.inj h; subst hs
                                  refine T_region_end [(2, { es := some (([(UInt8.ofNat ((a0.f2.getD v4.toNat 0).toNat : Int).toNat)]).map cU) }), (3, { es := some ((v3 ++ ([(UInt8.ofNat ((a0.f2.getD v4.toNat 0).toNat : Int).toNat)])).map cU) })] [1, 9, 177, 178] [] [(1, .box [.d (.v (.int .i64 a0.f0)), .d (.v (.int .i64 a0.f1)), .d (.str a0.f2), .d (.v (.int .i64 a0.f3)), .d (.v (.int .i64 a0.f4))]), (9, .own 5 1 ((v3 ++ ([(UInt8.ofNat ((a0.f2.getD v4.toNat 0).toNat : Int).toNat)])).map cU)), (177, .d (.v (.int .i64 (a0.f2.length : Int)))), (178, .d (.v (.int .i64 v4)))] [(2, [[Dat.v (.int .u8 ((a0.f2.getD v4.toNat 0).toNat : Int))]] = (([(UInt8.ofNat ((a0.f2.getD v4.toNat 0).toNat : Int).toNat)]).map cU)), (0, (v3.map cU).length + (([(UInt8.ofNat ((a0.f2.getD v4.toNat 0).toNat : Int).toNat)]).map cU).length ≤ 4294967296 ∧ (v3.map cU) ++ (([(UInt8.ofNat ((a0.f2.getD v4.toNat 0).toNat : Int).toNat)]).map cU) = ((v3 ++ ([(UInt8.ofNat ((a0.f2.getD v4.toNat 0).toNat : Int).toNat)])).map cU))] 1 (by kernel_rfl) (⟨(lit_u hp9 (rfl : ([] : List (List Dat)) = ([] : List UInt8).map cU)), app_ok cU hp10⟩) fun a w hm => inBlock_norm (inBlock_norm (then_norm (hm.co (cs := [.keep [1, 9, 177, 178]]) (by show _ = _; kernel_rfl))))
                                · have h := cond_ff hc h
                                  refine T_region [] [1, 9, 11, 12, 177, 178, 224] [] [(1, .box [.d (.v (.int .i64 a0.f0)), .d (.v (.int .i64 a0.f1)), .d (.str a0.f2), .d (.v (.int .i64 a0.f3)), .d (.v (.int .i64 a0.f4))]), (9, .own 5 1 (v3.map cU)), (11, .d (.v (.int .u8 ((a0.f2.getD v4.toNat 0).toNat : Int)))), (12, .own 5 1 (([(UInt8.ofNat z1.toNat), (UInt8.ofNat z2.toNat)]).map cU)), (177, .d (.v (.int .i64 (a0.f2.length : Int)))), (178, .d (.v (.int .i64 v4))), (224, .d (.v (.bool (a0.f0 == (2 : Int)))))] [] 4 (by kernel_rfl) (trivial) ?_
                                  refine T_cond (a0.f0 == (2 : Int)) (by kernel_rfl) (fun hc => ?_) (fun hc => ?_)
                                  · have h := cond_tt hc h
                                    obtain ⟨hp11, h⟩ := chk_ok h
                                    obtain ⟨hp12, h⟩ := chk_ok h
                                    obtain ⟨l1, hl1, h⟩ := lett_ok h
                                    obtain hs := Option.some.inj h; subst hs
                                    refine T_region_end [(1, { es := some (([(UInt8.ofNat (35 : Int).toNat)]).map cU) }), (2, { es := some ((v3 ++ ([(UInt8.ofNat (35 : Int).toNat)])).map cU) }), (4, { es := some (l1.map cU) })] [1, 9, 177, 178] [] [(1, .box [.d (.v (.int .i64 a0.f0)), .d (.v (.int .i64 a0.f1)), .d (.str a0.f2), .d (.v (.int .i64 a0.f3)), .d (.v (.int .i64 a0.f4))]), (9, .own 5 1 (l1.map cU)), (177, .d (.v (.int .i64 (a0.f2.length : Int)))), (178, .d (.v (.int .i64 v4)))] [(1, [[Dat.v (.int .u8 (35 : Int))]] = (([(UInt8.ofNat (35 : Int).toNat)]).map cU)), (0, (v3.map cU).length + (([(UInt8.ofNat (35 : Int).toNat)]).map cU).length ≤ 4294967296 ∧ (v3.map cU) ++ (([(UInt8.ofNat (35 : Int).toNat)]).map cU) = ((v3 ++ ([(UInt8.ofNat (35 : Int).toNat)])).map cU)), (1, ((v3 ++ ([(UInt8.ofNat (35 : Int).toNat)])).map cU).length + (([(UInt8.ofNat z1.toNat), (UInt8.ofNat z2.toNat)]).map cU).length ≤ 4294967296 ∧ ((v3 ++ ([(UInt8.ofNat (35 : Int).toNat)])).map cU) ++ (([(UInt8.ofNat z1.toNat), (UInt8.ofNat z2.toNat)]).map cU) = (l1.map cU))] 1 (by kernel_rfl) (⟨(lit_u (by decide) (rfl : ([] : List (List Dat)) = ([] : List UInt8).map cU)), app_ok cU hp11, and_trans (app_ok cU hp12) (by subst hl1; rfl)⟩) fun a w hm => inBlock_norm (inBlock_norm (then_norm (hm.co (cs := [.keep [1, 9, 177, 178]]) (by show _ = _; kernel_rfl))))
                                  · have h := cond_ff hc h
                                    refine T_region [] [1, 9, 11, 12, 177, 178, 233] [] [(1, .box [.d (.v (.int .i64 a0.f0)), .d (.v (.int .i64 a0.f1)), .d (.str a0.f2), .d (.v (.int .i64 a0.f3)), .d (.v (.int .i64 a0.f4))]), (9, .own 5 1 (v3.map cU)), (11, .d (.v (.int .u8 ((a0.f2.getD v4.toNat 0).toNat : Int)))), (12, .own 5 1 (([(UInt8.ofNat z1.toNat), (UInt8.ofNat z2.toNat)]).map cU)), (177, .d (.v (.int .i64 (a0.f2.length : Int)))), (178, .d (.v (.int .i64 v4))), (233, .d (.v (.bool (((a0.f2.getD v4.toNat 0).toNat : Int) == (10 : Int)))))] [] 3 (by kernel_rfl) (trivial) ?_
                                    refine T_cond (((a0.f2.getD v4.toNat 0).toNat : Int) == (10 : Int)) (by kernel_rfl) (fun hc => ?_) (fun hc => ?_)
                                    · have h := cond_tt hc h
                                      obtain ⟨hp13, h⟩ := chk_ok h
                                      obtain hs := Option.some.inj h; subst hs
                                      refine T_region_end [(1, { es := some (([(UInt8.ofNat (92 : Int).toNat), (UInt8.ofNat (110 : Int).toNat)]).map cU) }), (2, { es := some ((v3 ++ ([(UInt8.ofNat (92 : Int).toNat), (UInt8.ofNat (110 : Int).toNat)])).map cU) })] [1, 9, 177, 178] [] [(1, .box [.d (.v (.int .i64 a0.f0)), .d (.v (.int .i64 a0.f1)), .d (.str a0.f2), .d (.v (.int .i64 a0.f3)), .d (.v (.int .i64 a0.f4))]), (9, .own 5 1 ((v3 ++ ([(UInt8.ofNat (92 : Int).toNat), (UInt8.ofNat (110 : Int).toNat)])).map cU)), (177, .d (.v (.int .i64 (a0.f2.length : Int)))), (178, .d (.v (.int .i64 v4)))] [(1, [[Dat.v (.int .u8 (92 : Int))], [Dat.v (.int .u8 (110 : Int))]] = (([(UInt8.ofNat (92 : Int).toNat), (UInt8.ofNat (110 : Int).toNat)]).map cU)), (0, (v3.map cU).length + (([(UInt8.ofNat (92 : Int).toNat), (UInt8.ofNat (110 : Int).toNat)]).map cU).length ≤ 4294967296 ∧ (v3.map cU) ++ (([(UInt8.ofNat (92 : Int).toNat), (UInt8.ofNat (110 : Int).toNat)]).map cU) = ((v3 ++ ([(UInt8.ofNat (92 : Int).toNat), (UInt8.ofNat (110 : Int).toNat)])).map cU))] 1 (by kernel_rfl) (⟨(lit_u (by decide) (lit_u (by decide) (rfl : ([] : List (List Dat)) = ([] : List UInt8).map cU))), app_ok cU hp13⟩) fun a w hm => inBlock_norm (inBlock_norm (then_norm (hm.co (cs := [.keep [1, 9, 177, 178]]) (by show _ = _; kernel_rfl))))
                                    · have h := cond_ff hc h
                                      refine T_region [] [1, 9, 11, 12, 177, 178, 239] [] [(1, .box [.d (.v (.int .i64 a0.f0)), .d (.v (.int .i64 a0.f1)), .d (.str a0.f2), .d (.v (.int .i64 a0.f3)), .d (.v (.int .i64 a0.f4))]), (9, .own 5 1 (v3.map cU)), (11, .d (.v (.int .u8 ((a0.f2.getD v4.toNat 0).toNat : Int)))), (12, .own 5 1 (([(UInt8.ofNat z1.toNat), (UInt8.ofNat z2.toNat)]).map cU)), (177, .d (.v (.int .i64 (a0.f2.length : Int)))), (178, .d (.v (.int .i64 v4))), (239, .d (.v (.bool (((a0.f2.getD v4.toNat 0).toNat : Int) == (9 : Int)))))] [] 3 (by kernel_rfl) (trivial) ?_
                                      refine T_cond (((a0.f2.getD v4.toNat 0).toNat : Int) == (9 : Int)) (by kernel_rfl) (fun hc => ?_) (fun hc => ?_)
                                      · have h := cond_tt hc h
                                        obtain ⟨hp14, h⟩ := chk_ok h
                                        obtain hs := Option.some.inj h; subst hs
                                        refine T_region_end [(1, { es := some (([(UInt8.ofNat (92 : Int).toNat), (UInt8.ofNat (116 : Int).toNat)]).map cU) }), (2, { es := some ((v3 ++ ([(UInt8.ofNat (92 : Int).toNat), (UInt8.ofNat (116 : Int).toNat)])).map cU) })] [1, 9, 177, 178] [] [(1, .box [.d (.v (.int .i64 a0.f0)), .d (.v (.int .i64 a0.f1)), .d (.str a0.f2), .d (.v (.int .i64 a0.f3)), .d (.v (.int .i64 a0.f4))]), (9, .own 5 1 ((v3 ++ ([(UInt8.ofNat (92 : Int).toNat), (UInt8.ofNat (116 : Int).toNat)])).map cU)), (177, .d (.v (.int .i64 (a0.f2.length : Int)))), (178, .d (.v (.int .i64 v4)))] [(1, [[Dat.v (.int .u8 (92 : Int))], [Dat.v (.int .u8 (116 : Int))]] = (([(UInt8.ofNat (92 : Int).toNat), (UInt8.ofNat (116 : Int).toNat)]).map cU)), (0, (v3.map cU).length + (([(UInt8.ofNat (92 : Int).toNat), (UInt8.ofNat (116 : Int).toNat)]).map cU).length ≤ 4294967296 ∧ (v3.map cU) ++ (([(UInt8.ofNat (92 : Int).toNat), (UInt8.ofNat (116 : Int).toNat)]).map cU) = ((v3 ++ ([(UInt8.ofNat (92 : Int).toNat), (UInt8.ofNat (116 : Int).toNat)])).map cU))] 1 (by kernel_rfl) (⟨(lit_u (by decide) (lit_u (by decide) (rfl : ([] : List (List Dat)) = ([] : List UInt8).map cU))), app_ok cU hp14⟩) fun a w hm => inBlock_norm (inBlock_norm (then_norm (hm.co (cs := [.keep [1, 9, 177, 178]]) (by show _ = _; kernel_rfl))))
                                      · have h := cond_ff hc h
                                        obtain ⟨z5, hz10, h⟩ := lett_ok h
                                        refine T_region [(5, { rw := some (.d (.v (.bool z5))) })] [1, 9, 11, 12, 177, 178, 245] [] [(1, .box [.d (.v (.int .i64 a0.f0)), .d (.v (.int .i64 a0.f1)), .d (.str a0.f2), .d (.v (.int .i64 a0.f3)), .d (.v (.int .i64 a0.f4))]), (9, .own 5 1 (v3.map cU)), (11, .d (.v (.int .u8 ((a0.f2.getD v4.toNat 0).toNat : Int)))), (12, .own 5 1 (([(UInt8.ofNat z1.toNat), (UInt8.ofNat z2.toNat)]).map cU)), (177, .d (.v (.int .i64 (a0.f2.length : Int)))), (178, .d (.v (.int .i64 v4))), (245, .d (.v (.bool (bif z5 then true else (((a0.f2.getD v4.toNat 0).toNat : Int) == (92 : Int))))))] [(3, ((((((a0.f2.getD v4.toNat 0).toNat : Int) == (40 : Int)) == false) && true) = true → True)), (0, ((((((a0.f2.getD v4.toNat 0).toNat : Int) == (40 : Int)) == false) && true) = true → True)), (0, (True) ∧ AV.d (.v (.bool (bif (((a0.f2.getD v4.toNat 0).toNat : Int) == (40 : Int)) then true else (((a0.f2.getD v4.toNat 0).toNat : Int) == (41 : Int))))) = .d (.v (.bool z5))), (1, (((z5 == false) && true) = true → True)), (0, (((z5 == false) && true) = true → True))] 2 (by kernel_rfl) (⟨(fun hg => trivial), (fun hg => trivial), ⟨trivial, (by subst hz10; rfl)⟩, (fun hg => trivial), (fun hg => trivial)⟩) ?_
                                        refine T_cond (bif z5 then true else (((a0.f2.getD v4.toNat 0).toNat : Int) == (92 : Int))) (by kernel_rfl) (fun hc => ?_) (fun hc => ?_)
                                        · have h := cond_tt hc h
                                          obtain ⟨hp15, h⟩ := chk_ok h
                                          obtain ⟨hp16, h⟩ := chk_ok h
                                          obtain ⟨l2, hl2, h⟩ := lett_ok h
                                          obtain hs := Option.some.inj h; subst hs
                                          refine T_region_end [(2, { es := some (([(UInt8.ofNat (92 : Int).toNat), (UInt8.ofNat ((a0.f2.getD v4.toNat 0).toNat : Int).toNat)]).map cU) }), (3, { es := some (l2.map cU) })] [1, 9, 177, 178] [] [(1, .box [.d (.v (.int .i64 a0.f0)), .d (.v (.int .i64 a0.f1)), .d (.str a0.f2), .d (.v (.int .i64 a0.f3)), .d (.v (.int .i64 a0.f4))]), (9, .own 5 1 (l2.map cU)), (177, .d (.v (.int .i64 (a0.f2.length : Int)))), (178, .d (.v (.int .i64 v4)))] [(2, [[Dat.v (.int .u8 (92 : Int))], [Dat.v (.int .u8 ((a0.f2.getD v4.toNat 0).toNat : Int))]] = (([(UInt8.ofNat (92 : Int).toNat), (UInt8.ofNat ((a0.f2.getD v4.toNat 0).toNat : Int).toNat)]).map cU)), (0, (v3.map cU).length + (([(UInt8.ofNat (92 : Int).toNat), (UInt8.ofNat ((a0.f2.getD v4.toNat 0).toNat : Int).toNat)]).map cU).length ≤ 4294967296 ∧ (v3.map cU) ++ (([(UInt8.ofNat (92 : Int).toNat), (UInt8.ofNat ((a0.f2.getD v4.toNat 0).toNat : Int).toNat)]).map cU) = (l2.map cU))] 1 (by kernel_rfl) (⟨(lit_u (by decide) (lit_u hp15 (rfl : ([] : List (List Dat)) = ([] : List UInt8).map cU))), and_trans (app_ok cU hp16) (by subst hl2; rfl)⟩) fun a w hm => inBlock_norm (inBlock_norm (then_norm (hm.co (cs := [.keep [1, 9, 177, 178]]) (by show _ = _; kernel_rfl))))
                                        · have h := cond_ff hc h
                                          obtain ⟨z6, hz11, h⟩ := lett_ok h
                                          refine T_region [(5, { rw := some (.d (.v (.bool z6))) })] [1, 9, 11, 12, 177, 178, 260] [] [(1, .box [.d (.v (.int .i64 a0.f0)), .d (.v (.int .i64 a0.f1)), .d (.str a0.f2), .d (.v (.int .i64 a0.f3)), .d (.v (.int .i64 a0.f4))]), (9, .own 5 1 (v3.map cU)), (11, .d (.v (.int .u8 ((a0.f2.getD v4.toNat 0).toNat : Int)))), (12, .own 5 1 (([(UInt8.ofNat z1.toNat), (UInt8.ofNat z2.toNat)]).map cU)), (177, .d (.v (.int .i64 (a0.f2.length : Int)))), (178, .d (.v (.int .i64 v4))), (260, .d (.v (.bool z6)))] [(3, ((((decide (((a0.f2.getD v4.toNat 0).toNat : Int) < (32 : Int))) == false) && true) = true → True)), (0, ((((decide (((a0.f2.getD v4.toNat 0).toNat : Int) < (32 : Int))) == false) && true) = true → True)), (0, (True) ∧ AV.d (.v (.bool (bif (decide (((a0.f2.getD v4.toNat 0).toNat : Int) < (32 : Int))) then true else (decide (((a0.f2.getD v4.toNat 0).toNat : Int) ≥ (126 : Int)))))) = .d (.v (.bool z6)))] 1 (by kernel_rfl) (⟨(fun hg => trivial), (fun hg => trivial), ⟨trivial, (by subst hz11; rfl)⟩⟩) ?_
                                          refine T_cond z6 (by kernel_rfl) (fun hc => ?_) (fun hc => ?_)
                                          · have h := cond_tt hc h
                                            obtain ⟨hp17, h⟩ := chk_ok h
                                            obtain ⟨hp18, h⟩ := chk_ok h
                                            obtain ⟨l3, hl3, h⟩ := lett_ok h
                                            obtain hs := Option.some.inj h; subst hs
                                            refine T_region_end [(1, { es := some (([(UInt8.ofNat (92 : Int).toNat), (UInt8.ofNat (120 : Int).toNat)]).map cU) }), (2, { es := some ((v3 ++ ([(UInt8.ofNat (92 : Int).toNat), (UInt8.ofNat (120 : Int).toNat)])).map cU) }), (4, { es := some (l3.map cU) })] [1, 9, 177, 178] [] [(1, .box [.d (.v (.int .i64 a0.f0)), .d (.v (.int .i64 a0.f1)), .d (.str a0.f2), .d (.v (.int .i64 a0.f3)), .d (.v (.int .i64 a0.f4))]), (9, .own 5 1 (l3.map cU)), (177, .d (.v (.int .i64 (a0.f2.length : Int)))), (178, .d (.v (.int .i64 v4)))] [(1, [[Dat.v (.int .u8 (92 : Int))], [Dat.v (.int .u8 (120 : Int))]] = (([(UInt8.ofNat (92 : Int).toNat), (UInt8.ofNat (120 : Int).toNat)]).map cU)), (0, (v3.map cU).length + (([(UInt8.ofNat (92 : Int).toNat), (UInt8.ofNat (120 : Int).toNat)]).map cU).length ≤ 4294967296 ∧ (v3.map cU) ++ (([(UInt8.ofNat (92 : Int).toNat), (UInt8.ofNat (120 : Int).toNat)]).map cU) = ((v3 ++ ([(UInt8.ofNat (92 : Int).toNat), (UInt8.ofNat (120 : Int).toNat)])).map cU)), (1, ((v3 ++ ([(UInt8.ofNat (92 : Int).toNat), (UInt8.ofNat (120 : Int).toNat)])).map cU).length + (([(UInt8.ofNat z1.toNat), (UInt8.ofNat z2.toNat)]).map cU).length ≤ 4294967296 ∧ ((v3 ++ ([(UInt8.ofNat (92 : Int).toNat), (UInt8.ofNat (120 : Int).toNat)])).map cU) ++ (([(UInt8.ofNat z1.toNat), (UInt8.ofNat z2.toNat)]).map cU) = (l3.map cU))] 1 (by kernel_rfl) (⟨(lit_u (by decide) (lit_u (by decide) (rfl : ([] : List (List Dat)) = ([] : List UInt8).map cU))), app_ok cU hp17, and_trans (app_ok cU hp18) (by subst hl3; rfl)⟩) fun a w hm => inBlock_norm (inBlock_norm (then_norm (hm.co (cs := [.keep [1, 9, 177, 178]]) (by show _ = _; kernel_rfl))))
                                          · have h := cond_ff hc h
                                            obtain ⟨hp19, h⟩ := chk_ok h
                                            obtain ⟨hp20, h⟩ := chk_ok h
                                            obtain hs := Option.some.inj h; subst hs
                                            refine T_region_end [(2, { es := some (([(UInt8.ofNat ((a0.f2.getD v4.toNat 0).toNat : Int).toNat)]).map cU) }), (3, { es := some ((v3 ++ ([(UInt8.ofNat ((a0.f2.getD v4.toNat 0).toNat : Int).toNat)])).map cU) })] [1, 9, 177, 178] [] [(1, .box [.d (.v (.int .i64 a0.f0)), .d (.v (.int .i64 a0.f1)), .d (.str a0.f2), .d (.v (.int .i64 a0.f3)), .d (.v (.int .i64 a0.f4))]), (9, .own 5 1 ((v3 ++ ([(UInt8.ofNat ((a0.f2.getD v4.toNat 0).toNat : Int).toNat)])).map cU)), (177, .d (.v (.int .i64 (a0.f2.length : Int)))), (178, .d (.v (.int .i64 v4)))] [(2, [[Dat.v (.int .u8 ((a0.f2.getD v4.toNat 0).toNat : Int))]] = (([(UInt8.ofNat ((a0.f2.getD v4.toNat 0).toNat : Int).toNat)]).map cU)), (0, (v3.map cU).length + (([(UInt8.ofNat ((a0.f2.getD v4.toNat 0).toNat : Int).toNat)]).map cU).length ≤ 4294967296 ∧ (v3.map cU) ++ (([(UInt8.ofNat ((a0.f2.getD v4.toNat 0).toNat : Int).toNat)]).map cU) = ((v3 ++ ([(UInt8.ofNat ((a0.f2.getD v4.toNat 0).toNat : Int).toNat)])).map cU))] 1 (by kernel_rfl) (⟨(lit_u hp19 (rfl : ([] : List (List Dat)) = ([] : List UInt8).map cU)), app_ok cU hp20⟩) fun a w hm => inBlock_norm (inBlock_norm (then_norm (hm.co (cs := [.keep [1, 9, 177, 178]]) (by show _ = _; kernel_rfl))))
                              · skip
                                refine T_region_end [] [1, 9, 177, 178] [] [(1, .box [.d (.v (.int .i64 a0.f0)), .d (.v (.int .i64 a0.f1)), .d (.str a0.f2), .d (.v (.int .i64 a0.f3)), .d (.v (.int .i64 a0.f4))]), (9, .own 5 1 (v5.map cU)), (177, .d (.v (.int .i64 (a0.f2.length : Int)))), (178, .d (.v (.int .i64 (IntKind.i64.wrap (v4 + (1 : Int))))))] [] 2 (by kernel_rfl) (trivial) fun a w hm => then_norm (⟨(v5, IntKind.i64.wrap (v4 + (1 : Int))), h, hm.co (cs := [.keep [1, 9, 177, 178]]) (by show _ = _; kernel_rfl)⟩)
                            · have h := cond_ff hc h
                              obtain hs := Option.some.inj h; subst hs
                              refine T_exit fun a w hm => then_exit (then_exit (inBlock_exit (then_norm (hm.co (cs := [.keep [1, 9]]) (by show _ = _; kernel_rfl)))))
                          · skip
                            refine fun a w hm => then_norm (((?_ : T Tryd.prog e 283 _ _ _) a w hm))
                            refine T_seqk ?_
                            refine T_region [] [9, 275] [] [(9, .own 5 1 (v7.map cU)), (275, .d (.v (.bool (a0.f0 == (2 : Int)))))] [] 3 (by kernel_rfl) (trivial) ?_
                            refine T_cond (a0.f0 == (2 : Int)) (by kernel_rfl) (fun hc => ?_) (fun hc => ?_)
                            · have h := cond_tt hc h
                              obtain ⟨hp21, h⟩ := chk_ok h
                              refine T_region [(1, { cs := [.str v7] })] [2, 3] [] [(2, .d (.str (([47] : List UInt8) ++ v7))), (3, .d (.v (.int .i64 (0 : Int))))] [(1, (v7.map cU) = byteCells v7), (0, ([47] : List UInt8).length + v7.length ≤ 9223372036854775807)] 2 (by kernel_rfl) (⟨rfl, hp21⟩) ?_
                              obtain hs := Option.some.inj h; subst hs
                              refine T_ret fun a w hm => then_ret (T_return (fr' := [(2, .d (.str (([47] : List UInt8) ++ v7))), (3, .d (.v (.int .i64 (0 : Int))))]) [2, 3] (by kernel_rfl) [.keep [2, 3]] (by kernel_rfl) (by kernel_rfl) (by kernel_rfl) (by show _ = _; kernel_rfl) (by exact trivial) a w hm)
                            · have h := cond_ff hc h
                              refine T_skip fun a w hm => then_norm (((?_ : T Tryd.prog e 283 _ _ _) a w hm))
                              obtain ⟨hp22, h⟩ := chk_ok h
                              obtain ⟨hp23, h⟩ := chk_ok h
                              refine T_region [(1, { cs := [.str v7] })] [2, 3] [] [(2, .d (.str ((([40] : List UInt8) ++ v7) ++ ([41] : List UInt8)))), (3, .d (.v (.int .i64 (0 : Int))))] [(1, (v7.map cU) = byteCells v7), (0, ([40] : List UInt8).length + v7.length ≤ 9223372036854775807), (0, (([40] : List UInt8) ++ v7).length + ([41] : List UInt8).length ≤ 9223372036854775807)] 2 (by kernel_rfl) (⟨rfl, hp22, hp23⟩) ?_
                              obtain hs := Option.some.inj h; subst hs
                              refine T_ret fun a w hm => T_return (fr' := [(2, .d (.str ((([40] : List UInt8) ++ v7) ++ ([41] : List UInt8)))), (3, .d (.v (.int .i64 (0 : Int))))]) [2, 3] (by kernel_rfl) [.keep [2, 3]] (by kernel_rfl) (by kernel_rfl) (by kernel_rfl) (by show _ = _; kernel_rfl) (by exact trivial) a w hm

theorem law3_TokenPrintSpelling_ok {F : Nat} {a0 : S_Token} {r : Bool} (h : law3_TokenPrintSpelling F a0 = some r) : ACall Tryd.prog 3 [.agg (cS_Token a0)] [.glo 4 (glob_internal_strconv_uint64pow10.flatMap (cI .u64))] (.d (.v (.bool r))) [.glo 4 (glob_internal_strconv_uint64pow10.flatMap (cI .u64))] := by
  rw [law3_TokenPrintSpelling] at h
  refine ACall.intro (N := 38) Tryd.func3 rfl rfl rfl rfl rfl fun e => ?_
  refine T_region [] [1, 1000000] [] [(1, .box [.d (.v (.int .i64 a0.f0)), .d (.v (.int .i64 a0.f1)), .d (.str a0.f2), .d (.v (.int .i64 a0.f3)), .d (.v (.int .i64 a0.f4))]), (1000000, .glo 4 (glob_internal_strconv_uint64pow10.flatMap (cI .u64)))] [] 2 (by kernel_rfl) (trivial) ?_
  refine T_seqk ?_
  obtain ⟨y1, hy1, h⟩ := call_ok h
  refine T_region [(1, { res := .tup [.d (.str y1.1), .d (.v (.int .i64 y1.2))], vout := [.glo 4 (glob_internal_strconv_uint64pow10.flatMap (cI .u64))], xs := [1000000] })] [1, 3, 4, 1000000] [] [(1, .box [.d (.v (.int .i64 a0.f0)), .d (.v (.int .i64 a0.f1)), .d (.str a0.f2), .d (.v (.int .i64 a0.f3)), .d (.v (.int .i64 a0.f4))]), (3, .d (.str y1.1)), (4, .d (.v (.int .i64 y1.2))), (1000000, .glo 4 (glob_internal_strconv_uint64pow10.flatMap (cI .u64)))] [(1, ACall Tryd.prog 13 [.agg (cS_Token (S_Token.mk (3 : Int) 0 ([65, 126, 10] : List UInt8) 0 0))] [.glo 4 (glob_internal_strconv_uint64pow10.flatMap (cI .u64))] (.tup [.d (.str y1.1), .d (.v (.int .i64 y1.2))]) [.glo 4 (glob_internal_strconv_uint64pow10.flatMap (cI .u64))])] 5 (by kernel_rfl) (token_Print_ok hy1) ?_
  obtain ⟨z1, hz1, h⟩ := lett_ok h
  refine T_region [(5, { rw := some (.d (.v (.bool z1))) })] [1, 19, 1000000] [] [(1, .box [.d (.v (.int .i64 a0.f0)), .d (.v (.int .i64 a0.f1)), .d (.str a0.f2), .d (.v (.int .i64 a0.f3)), .d (.v (.int .i64 a0.f4))]), (19, .d (.v (.bool z1))), (1000000, .glo 4 (glob_internal_strconv_uint64pow10.flatMap (cI .u64)))] [(3, ((((y1.2 != (0 : Int)) == false) && true) = true → True)), (0, ((((y1.2 != (0 : Int)) == false) && true) = true → True)), (0, (True) ∧ AV.d (.v (.bool (bif (y1.2 != (0 : Int)) then true else (!(y1.1 == ([40, 65, 92, 120, 55, 101, 92, 110, 41] : List UInt8)))))) = .d (.v (.bool z1)))] 0 (by kernel_rfl) (⟨(fun hg => trivial), (fun hg => trivial), ⟨trivial, (by subst hz1; rfl)⟩⟩) ?_
  refine T_cond z1 (by kernel_rfl) (fun hc => ?_) (fun hc => ?_)
  · have h := cond_tt hc h
    refine T_region [] [2, 1000000] [] [(2, .d (.v (.bool false))), (1000000, .glo 4 (glob_internal_strconv_uint64pow10.flatMap (cI .u64)))] [] 1 (by kernel_rfl) (trivial) ?_
    obtain hs := Option.some.inj h; subst hs
    refine T_ret fun a w hm => then_ret (T_return (fr' := [(2, .d (.v (.bool false))), (1000000, .glo 4 (glob_internal_strconv_uint64pow10.flatMap (cI .u64)))]) [2] (by kernel_rfl) [.keep [2, 1000000]] (by kernel_rfl) (by kernel_rfl) (by kernel_rfl) (by show _ = _; kernel_rfl) (by exact ⟨⟨by kernel_rfl, by kernel_rfl⟩, trivial⟩) a w hm)
  · have h := cond_ff hc h
    refine T_skip fun a w hm => then_norm (((?_ : T Tryd.prog e 38 _ _ _) a w hm))
    obtain ⟨y2, hy2, h⟩ := call_ok h
    refine T_region [(1, { res := .tup [.d (.str y2.1), .d (.v (.int .i64 y2.2))], vout := [.glo 4 (glob_internal_strconv_uint64pow10.flatMap (cI .u64))], xs := [1000000] })] [1, 5, 6, 1000000] [] [(1, .box [.d (.v (.int .i64 a0.f0)), .d (.v (.int .i64 a0.f1)), .d (.str a0.f2), .d (.v (.int .i64 a0.f3)), .d (.v (.int .i64 a0.f4))]), (5, .d (.str y2.1)), (6, .d (.v (.int .i64 y2.2))), (1000000, .glo 4 (glob_internal_strconv_uint64pow10.flatMap (cI .u64)))] [(1, ACall Tryd.prog 13 [.agg (cS_Token a0)] [.glo 4 (glob_internal_strconv_uint64pow10.flatMap (cI .u64))] (.tup [.d (.str y2.1), .d (.v (.int .i64 y2.2))]) [.glo 4 (glob_internal_strconv_uint64pow10.flatMap (cI .u64))])] 5 (by kernel_rfl) (token_Print_ok hy2) ?_
    obtain ⟨y3, hy3, h⟩ := call_ok h
    refine T_region [(1, { res := .tup [.d (.str y3.1), .d (.v (.int .i64 y3.2))] })] [5, 6, 7, 8, 1000000] [] [(5, .d (.str y2.1)), (6, .d (.v (.int .i64 y2.2))), (7, .d (.str y3.1)), (8, .d (.v (.int .i64 y3.2))), (1000000, .glo 4 (glob_internal_strconv_uint64pow10.flatMap (cI .u64)))] [(1, ACall Tryd.prog 14 [.agg (cS_Token a0)] [] (.tup [.d (.str y3.1), .d (.v (.int .i64 y3.2))]) [])] 5 (by kernel_rfl) (ref3_Spelled_ok hy3) ?_
    refine T_region [] [2, 1000000] [] [(2, .d (.v (.bool (bif (y2.2 == y3.2) then (y2.1 == y3.1) else false)))), (1000000, .glo 4 (glob_internal_strconv_uint64pow10.flatMap (cI .u64)))] [(4, ((((y2.2 == y3.2) == true) && true) = true → True)), (0, ((((y2.2 == y3.2) == true) && true) = true → True)), (0, ((((y2.2 == y3.2) == true) && true) = true → True))] 2 (by kernel_rfl) (⟨(fun hg => trivial), (fun hg => trivial), (fun hg => trivial)⟩) ?_
    obtain hs := Option.some.inj h; subst hs
    refine T_ret fun a w hm => T_return (fr' := [(2, .d (.v (.bool (bif (y2.2 == y3.2) then (y2.1 == y3.1) else false)))), (1000000, .glo 4 (glob_internal_strconv_uint64pow10.flatMap (cI .u64)))]) [2] (by kernel_rfl) [.keep [2, 1000000]] (by kernel_rfl) (by kernel_rfl) (by kernel_rfl) (by show _ = _; kernel_rfl) (by exact ⟨⟨by kernel_rfl, by kernel_rfl⟩, trivial⟩) a w hm

end Go.Vm.TokG
