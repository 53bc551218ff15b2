import Derived.Test.YtknicigahcopjaaProg
import Derived.Test.YtknicigahcopjaaReadF
namespace Go.Vm.GenC4
open Go.Proofs
theorem mixed : Try.prog.follows .mixedOrders = true := by kernel_rfl
theorem f17_ok {F : Nat} {a0 : List Int} {a1 : Int} {a2 : Int} {c3 : Int} {r : (List Int) × Int} (h : f17 F a0 a1 a2 c3 = some r) : ACall Try.prog 17 [.own 1 (a0.map (cI .i64)), .d (.v (.int .i64 a1)), .d (.v (.int .i64 a2)), .bp 1000000 0] [[.d (.v (.int .i64 c3))]] (.own 1 (r.1.map (cI .i64))) [[.d (.v (.int .i64 r.2))]] := by
  rw [f17] at h
  refine ACall.intro (N := 28) Try.func17 rfl rfl rfl rfl rfl fun e => ?_
  refine T_region [] [0, 1, 2, 3, 1000000] [] [(0, .own 1 (a0.map (cI .i64))), (1, .d (.v (.int .i64 a1))), (2, .d (.v (.int .i64 a2))), (3, .bp 1000000 0), (1000000, .box [.d (.v (.int .i64 c3))])] [] 1 (by kernel_rfl) (trivial) ?_
  refine T_seqk ?_
  refine T_region [] [0, 1, 2, 3, 8, 1000000] [] [(0, .own 1 (a0.map (cI .i64))), (1, .d (.v (.int .i64 a1))), (2, .d (.v (.int .i64 a2))), (3, .bp 1000000 0), (8, .d (.v (.int .i64 a1))), (1000000, .box [.d (.v (.int .i64 c3))])] [] 2 (by kernel_rfl) (trivial) ?_
  refine T_joinct h (fun (p : (List Int)) => [(0, .own 1 (p.map (cI .i64))), (1000000, .box [.d (.v (.int .i64 c3))])]) (fun s h => ?_) (fun v4 h => ?_)
  · refine T_co [.keep [0, 1, 2, 3, 8, 1000000]] ((fun (p : (List Int) × Int) => [(0, .own 1 (p.1.map (cI .i64))), (1, .d (.v (.int .i64 a1))), (2, .d (.v (.int .i64 a2))), (3, .bp 1000000 0), (8, .d (.v (.int .i64 p.2))), (1000000, .box [.d (.v (.int .i64 c3))])]) (a0, a1)) (by show _ = _; kernel_rfl) ?_
    refine T_block ?_
    refine T_loopF (ι := (List Int) × Int) (fun (p : (List Int) × Int) => [(0, .own 1 (p.1.map (cI .i64))), (1, .d (.v (.int .i64 a1))), (2, .d (.v (.int .i64 a2))), (3, .bp 1000000 0), (8, .d (.v (.int .i64 p.2))), (1000000, .box [.d (.v (.int .i64 c3))])]) (fun n p => f17_L0 F a1 a2 c3 n p.1 p.2 = some s) (fun i hh => by simp [f17_L0] at hh) (fun n p h => ?_) F (a0, a1) h
    obtain ⟨v1, v2⟩ := p
    have h : f17_L0 F a1 a2 c3 (n + 1) v1 v2 = some s := h
    rw [f17_L0] at h
    refine T_seqk ?_
    refine T_region [] [0, 1, 2, 3, 8, 14, 1000000] [] [(0, .own 1 (v1.map (cI .i64))), (1, .d (.v (.int .i64 a1))), (2, .d (.v (.int .i64 a2))), (3, .bp 1000000 0), (8, .d (.v (.int .i64 v2))), (14, .d (.v (.bool (decide (v2 < (IntKind.i64.wrap (a1 + a2))))))), (1000000, .box [.d (.v (.int .i64 c3))])] [] 5 (by kernel_rfl) (trivial) ?_
    refine T_cond (decide (v2 < (IntKind.i64.wrap (a1 + a2)))) (by kernel_rfl) (fun hc => ?_) (fun hc => ?_)
    · have h := cond_tt hc h
      refine T_skip fun a w hm => then_norm (((?_ : T Try.prog e 28 _ _ _) a w hm))
      refine T_joinc h (fun (p : (List Int)) => [(0, .own 1 (p.map (cI .i64))), (1, .d (.v (.int .i64 a1))), (2, .d (.v (.int .i64 a2))), (3, .bp 1000000 0), (8, .d (.v (.int .i64 v2))), (1000000, .box [.d (.v (.int .i64 c3))])]) (fun s h => ?_) (fun v3 h => ?_)
      · refine T_block ?_
        refine T_region [] [0, 1, 2, 3, 8, 19, 1000000] [] [(0, .own 1 (v1.map (cI .i64))), (1, .d (.v (.int .i64 a1))), (2, .d (.v (.int .i64 a2))), (3, .bp 1000000 0), (8, .d (.v (.int .i64 v2))), (19, .d (.v (.bool (decide (v2 ≤ c3))))), (1000000, .box [.d (.v (.int .i64 c3))])] [] 3 (by kernel_rfl) (trivial) ?_
        refine T_cond (decide (v2 ≤ c3)) (by kernel_rfl) (fun hc => ?_) (fun hc => ?_)
        · have h := cond_tt hc h
          obtain ⟨hp1, h⟩ := chk_ok h
          obtain hs := Option.some.inj h; subst hs
          refine T_region_end [(2, { es := some (([v2]).map (cI .i64)) }), (3, { es := some ((v1 ++ ([v2])).map (cI .i64)) })] [0, 1, 2, 3, 8, 1000000] [] [(0, .own 1 ((v1 ++ ([v2])).map (cI .i64))), (1, .d (.v (.int .i64 a1))), (2, .d (.v (.int .i64 a2))), (3, .bp 1000000 0), (8, .d (.v (.int .i64 v2))), (1000000, .box [.d (.v (.int .i64 c3))])] [(2, (([v2]).map (cI .i64)) = (([v2]).map (cI .i64))), (0, (v1.map (cI .i64)).length + (([v2]).map (cI .i64)).length ≤ 4294967296 ∧ (v1.map (cI .i64)) ++ (([v2]).map (cI .i64)) = ((v1 ++ ([v2])).map (cI .i64)))] 1 (by kernel_rfl) (⟨rfl, app_ok (cI .i64) hp1⟩) fun a w hm => inBlock_norm (then_norm (hm.co (cs := [.keep [0, 1, 2, 3, 8, 1000000]]) (by show _ = _; kernel_rfl)))
        · have h := cond_ff hc h
          obtain ⟨hp2, h⟩ := chk_ok h
          obtain hs := Option.some.inj h; subst hs
          refine T_region_end [(1, { es := some (([(0 : Int)]).map (cI .i64)) }), (2, { es := some ((v1 ++ ([(0 : Int)])).map (cI .i64)) })] [0, 1, 2, 3, 8, 1000000] [] [(0, .own 1 ((v1 ++ ([(0 : Int)])).map (cI .i64))), (1, .d (.v (.int .i64 a1))), (2, .d (.v (.int .i64 a2))), (3, .bp 1000000 0), (8, .d (.v (.int .i64 v2))), (1000000, .box [.d (.v (.int .i64 c3))])] [(1, (([(0 : Int)]).map (cI .i64)) = (([(0 : Int)]).map (cI .i64))), (0, (v1.map (cI .i64)).length + (([(0 : Int)]).map (cI .i64)).length ≤ 4294967296 ∧ (v1.map (cI .i64)) ++ (([(0 : Int)]).map (cI .i64)) = ((v1 ++ ([(0 : Int)])).map (cI .i64)))] 1 (by kernel_rfl) (⟨rfl, app_ok (cI .i64) hp2⟩) fun a w hm => inBlock_norm (then_norm (hm.co (cs := [.keep [0, 1, 2, 3, 8, 1000000]]) (by show _ = _; kernel_rfl)))
      · skip
        refine T_region_end [] [0, 1, 2, 3, 8, 1000000] [] [(0, .own 1 (v3.map (cI .i64))), (1, .d (.v (.int .i64 a1))), (2, .d (.v (.int .i64 a2))), (3, .bp 1000000 0), (8, .d (.v (.int .i64 (IntKind.i64.wrap (v2 + (1 : Int)))))), (1000000, .box [.d (.v (.int .i64 c3))])] [] 3 (by kernel_rfl) (trivial) fun a w hm => then_norm (⟨(v3, IntKind.i64.wrap (v2 + (1 : Int))), h, hm.co (cs := [.keep [0, 1, 2, 3, 8, 1000000]]) (by show _ = _; kernel_rfl)⟩)
    · have h := cond_ff hc h
      obtain hs := Option.some.inj h; subst hs
      refine T_exit fun a w hm => then_exit (then_exit (inBlock_exit (then_norm (hm.co (cs := [.keep [0, 1000000]]) (by show _ = _; kernel_rfl)))))
  · skip
    refine fun a w hm => then_norm (((?_ : T Try.prog e 28 _ _ _) a w hm))
    refine T_region [] [0, 7, 1000000] [] [(0, .own 1 (v4.map (cI .i64))), (7, .vw (0, 0)), (1000000, .box [.d (.v (.int .i64 c3))])] [] 2 (by kernel_rfl) (trivial) ?_
    obtain hs := Option.some.inj h; subst hs
    refine T_ret fun a w hm => T_return (fr' := [(7, .own 1 (v4.map (cI .i64))), (1000000, .box [.d (.v (.int .i64 c3))])]) [7] (by kernel_rfl) [.claim 7, .keep [7, 1000000]] (by kernel_rfl) (by kernel_rfl) (by kernel_rfl) (by show _ = _; kernel_rfl) (by exact ⟨⟨by kernel_rfl, by kernel_rfl⟩, trivial⟩) a w hm

theorem f7_ok {F : Nat} {a0 : Int} {a1 : Int} {a2 : Int} {r : (List (List Int)) × Int} (h : f7 F a0 a1 a2 = some r) : ACall Try.prog 7 [.d (.v (.int .i64 a0)), .d (.v (.int .i64 a1)), .d (.v (.int .i64 a2))] [] (.tup [.own 1 (r.1.map (cL 1 (cI .i64))), .d (.v (.int .i64 r.2))]) [] := by
  rw [f7] at h
  refine ACall.intro (N := 99) Try.func7 rfl rfl rfl rfl rfl fun e => ?_
  refine T_region [] [1, 2, 3] [] [(1, .d (.v (.int .i64 a1))), (2, .d (.v (.int .i64 a2))), (3, .box [.d (.v (.int .i64 a0))])] [] 3 (by kernel_rfl) (trivial) ?_
  refine T_seqk ?_
  refine T_block ?_
  obtain ⟨z4, hz1, h⟩ := lett_ok h
  refine T_region [(9, { rw := some (.d (.v (.bool z4))) })] [1, 2, 3, 13] [] [(1, .d (.v (.int .i64 a1))), (2, .d (.v (.int .i64 a2))), (3, .box [.d (.v (.int .i64 a0))]), (13, .d (.v (.bool (bif z4 then true else (decide (a1 > (64 : Int)))))))] [(3, ((((decide (a0 < (1 : Int))) == false) && true) = true → True)), (0, ((((decide (a0 < (1 : Int))) == false) && true) = true → True)), (2, ((((bif (decide (a0 < (1 : Int))) then true else (decide (a0 > (512 : Int)))) == false) && true) = true → True)), (0, ((((bif (decide (a0 < (1 : Int))) then true else (decide (a0 > (512 : Int)))) == false) && true) = true → True)), (0, (True) ∧ AV.d (.v (.bool (bif (bif (decide (a0 < (1 : Int))) then true else (decide (a0 > (512 : Int)))) then true else (decide (a1 < (2 : Int)))))) = .d (.v (.bool z4))), (1, (((z4 == false) && true) = true → True)), (0, (((z4 == false) && true) = true → True))] 2 (by kernel_rfl) (⟨(fun hg => trivial), (fun hg => trivial), (fun hg => trivial), (fun hg => trivial), ⟨trivial, (by subst hz1; rfl)⟩, (fun hg => trivial), (fun hg => trivial)⟩) ?_
  refine T_cond (bif z4 then true else (decide (a1 > (64 : Int)))) (by kernel_rfl) (fun hc => ?_) (fun hc => ?_)
  · have h := cond_tt hc h
    refine T_region [] [6, 7] [] [(6, .own 1 ([].map (cL 1 (cI .i64)))), (7, .d (.v (.int .i64 (3 : Int))))] [] 2 (by kernel_rfl) (trivial) ?_
    obtain hs := Option.some.inj h; subst hs
    refine T_ret fun a w hm => inBlock_ret (then_ret (T_return (fr' := [(6, .own 1 ([].map (cL 1 (cI .i64)))), (7, .d (.v (.int .i64 (3 : Int))))]) [6, 7] (by kernel_rfl) [.keep [6, 7]] (by kernel_rfl) (by kernel_rfl) (by kernel_rfl) (by show _ = _; kernel_rfl) (by exact trivial) a w hm))
  · have h := cond_ff hc h
    refine T_region [] [1, 2, 3, 28] [] [(1, .d (.v (.int .i64 a1))), (2, .d (.v (.int .i64 a2))), (3, .box [.d (.v (.int .i64 a0))]), (28, .d (.v (.bool (bif (a2 != (0 : Int)) then (a2 != (1 : Int)) else false))))] [(3, ((((a2 != (0 : Int)) == true) && true) = true → True)), (0, ((((a2 != (0 : Int)) == true) && true) = true → True))] 2 (by kernel_rfl) (⟨(fun hg => trivial), (fun hg => trivial)⟩) ?_
    refine T_cond (bif (a2 != (0 : Int)) then (a2 != (1 : Int)) else false) (by kernel_rfl) (fun hc => ?_) (fun hc => ?_)
    · have h := cond_tt hc h
      refine T_region [] [6, 7] [] [(6, .own 1 ([].map (cL 1 (cI .i64)))), (7, .d (.v (.int .i64 (14 : Int))))] [] 2 (by kernel_rfl) (trivial) ?_
      obtain hs := Option.some.inj h; subst hs
      refine T_ret fun a w hm => inBlock_ret (then_ret (T_return (fr' := [(6, .own 1 ([].map (cL 1 (cI .i64)))), (7, .d (.v (.int .i64 (14 : Int))))]) [6, 7] (by kernel_rfl) [.keep [6, 7]] (by kernel_rfl) (by kernel_rfl) (by kernel_rfl) (by show _ = _; kernel_rfl) (by exact trivial) a w hm))
    · have h := cond_ff hc h
      obtain ⟨z5, hz2, h⟩ := lett_ok h
      refine T_region [(11, { rw := some (.d (.v (.bool z5))) })] [1, 2, 3, 35] [] [(1, .d (.v (.int .i64 a1))), (2, .d (.v (.int .i64 a2))), (3, .box [.d (.v (.int .i64 a0))]), (35, .d (.v (.bool z5)))] [(1, (2 : Int) ≠ 0), (2, (((((a1.tmod (2 : Int)) == (1 : Int)) == false) && true) = true → True)), (0, (((((a1.tmod (2 : Int)) == (1 : Int)) == false) && true) = true → True)), (0, (((((a1.tmod (2 : Int)) == (1 : Int)) == false) && true) = true → True)), (0, ((((a2 == (1 : Int)) == true) && ((((a1.tmod (2 : Int)) == (1 : Int)) == false) && true)) = true → True)), (0, ((((a2 == (1 : Int)) == true) && ((((a1.tmod (2 : Int)) == (1 : Int)) == false) && true)) = true → (4 : Int) ≠ 0)), (0, ((((a2 == (1 : Int)) == true) && ((((a1.tmod (2 : Int)) == (1 : Int)) == false) && true)) = true → True)), (0, (((((a1.tmod (2 : Int)) == (1 : Int)) == false) && true) = true → True)), (0, (True) ∧ AV.d (.v (.bool (bif ((a1.tmod (2 : Int)) == (1 : Int)) then true else (bif (a2 == (1 : Int)) then ((a1.tmod (4 : Int)) != (0 : Int)) else false)))) = .d (.v (.bool z5)))] 1 (by kernel_rfl) (⟨(show (2 : Int) ≠ 0 by decide), (fun hg => trivial), (fun hg => trivial), (fun hg => trivial), (fun hg => trivial), (fun hg => (show (4 : Int) ≠ 0 by decide)), (fun hg => trivial), (fun hg => trivial), ⟨trivial, (by subst hz2; rfl)⟩⟩) ?_
      refine T_cond z5 (by kernel_rfl) (fun hc => ?_) (fun hc => ?_)
      · have h := cond_tt hc h
        refine T_region [] [6, 7] [] [(6, .own 1 ([].map (cL 1 (cI .i64)))), (7, .d (.v (.int .i64 (4 : Int))))] [] 2 (by kernel_rfl) (trivial) ?_
        obtain hs := Option.some.inj h; subst hs
        refine T_ret fun a w hm => inBlock_ret (then_ret (T_return (fr' := [(6, .own 1 ([].map (cL 1 (cI .i64)))), (7, .d (.v (.int .i64 (4 : Int))))]) [6, 7] (by kernel_rfl) [.keep [6, 7]] (by kernel_rfl) (by kernel_rfl) (by kernel_rfl) (by show _ = _; kernel_rfl) (by exact trivial) a w hm))
      · have h := cond_ff hc h
        refine T_skip fun a w hm => inBlock_norm (then_norm (((?_ : T Try.prog e 99 _ _ _) a w hm)))
        obtain ⟨hp1, h⟩ := chk_ok h
        refine T_region [] [1, 2, 3, 8] [] [(1, .d (.v (.int .i64 a1))), (2, .d (.v (.int .i64 a2))), (3, .box [.d (.v (.int .i64 a0))]), (8, .d (.v (.int .i64 (IntKind.i64.wrap ((IntKind.i64.wrap ((IntKind.i64.wrap (a0 + a1)) - (1 : Int))).tdiv a1)))))] [(5, a1 ≠ 0)] 1 (by kernel_rfl) (hp1) ?_
        refine T_seqk ?_
        obtain ⟨z6, hz3, h⟩ := lett_ok h
        refine T_region [(1, { rw := some (.d (.v (.bool z6))) })] [1, 2, 3, 8, 55] [] [(1, .d (.v (.int .i64 a1))), (2, .d (.v (.int .i64 a2))), (3, .box [.d (.v (.int .i64 a0))]), (8, .d (.v (.int .i64 (IntKind.i64.wrap ((IntKind.i64.wrap ((IntKind.i64.wrap (a0 + a1)) - (1 : Int))).tdiv a1))))), (55, .d (.v (.bool z6)))] [(1, (True) ∧ AV.d (.v (.bool (decide ((IntKind.i64.wrap ((IntKind.i64.wrap ((IntKind.i64.wrap (a0 + a1)) - (1 : Int))).tdiv a1)) > (64 : Int))))) = .d (.v (.bool z6)))] 0 (by kernel_rfl) (⟨trivial, (by subst hz3; rfl)⟩) ?_
        refine T_cond z6 (by kernel_rfl) (fun hc => ?_) (fun hc => ?_)
        · have h := cond_tt hc h
          refine T_region [] [6, 7] [] [(6, .own 1 ([].map (cL 1 (cI .i64)))), (7, .d (.v (.int .i64 (2 : Int))))] [] 2 (by kernel_rfl) (trivial) ?_
          obtain hs := Option.some.inj h; subst hs
          refine T_ret fun a w hm => then_ret (T_return (fr' := [(6, .own 1 ([].map (cL 1 (cI .i64)))), (7, .d (.v (.int .i64 (2 : Int))))]) [6, 7] (by kernel_rfl) [.keep [6, 7]] (by kernel_rfl) (by kernel_rfl) (by kernel_rfl) (by show _ = _; kernel_rfl) (by exact trivial) a w hm)
        · have h := cond_ff hc h
          refine T_skip fun a w hm => then_norm (((?_ : T Try.prog e 99 _ _ _) a w hm))
          refine T_region [] [1, 2, 3, 8, 9] [] [(1, .d (.v (.int .i64 a1))), (2, .d (.v (.int .i64 a2))), (3, .box [.d (.v (.int .i64 a0))]), (8, .d (.v (.int .i64 (IntKind.i64.wrap ((IntKind.i64.wrap ((IntKind.i64.wrap (a0 + a1)) - (1 : Int))).tdiv a1))))), (9, .own 1 ([].map (cL 1 (cI .i64))))] [] 1 (by kernel_rfl) (trivial) ?_
          refine T_region [] [1, 2, 3, 8, 9, 10] [] [(1, .d (.v (.int .i64 a1))), (2, .d (.v (.int .i64 a2))), (3, .box [.d (.v (.int .i64 a0))]), (8, .d (.v (.int .i64 (IntKind.i64.wrap ((IntKind.i64.wrap ((IntKind.i64.wrap (a0 + a1)) - (1 : Int))).tdiv a1))))), (9, .own 1 ([].map (cL 1 (cI .i64)))), (10, .clo 17 [.bp 3 0])] [] 2 (by kernel_rfl) (trivial) ?_
          refine T_seqk ?_
          refine T_region [] [1, 2, 3, 8, 9, 10, 57, 58] [] [(1, .d (.v (.int .i64 a1))), (2, .d (.v (.int .i64 a2))), (3, .box [.d (.v (.int .i64 a0))]), (8, .d (.v (.int .i64 (IntKind.i64.wrap ((IntKind.i64.wrap ((IntKind.i64.wrap (a0 + a1)) - (1 : Int))).tdiv a1))))), (9, .own 1 ([].map (cL 1 (cI .i64)))), (10, .clo 17 [.bp 3 0]), (57, .d (.v (.int .i64 (IntKind.i64.wrap ((IntKind.i64.wrap ((IntKind.i64.wrap (a0 + a1)) - (1 : Int))).tdiv a1))))), (58, .d (.v (.int .i64 (0 : Int))))] [] 2 (by kernel_rfl) (trivial) ?_
          refine T_joinct h (fun (p : (List (List Int))) => [(9, .own 1 (p.map (cL 1 (cI .i64))))]) (fun s h => ?_) (fun v6 h => ?_)
          · refine T_co [.keep [1, 2, 3, 8, 9, 10, 57, 58]] ((fun (p : Int × (List (List Int)) × Int) => [(1, .d (.v (.int .i64 a1))), (2, .d (.v (.int .i64 a2))), (3, .box [.d (.v (.int .i64 p.1))]), (8, .d (.v (.int .i64 (IntKind.i64.wrap ((IntKind.i64.wrap ((IntKind.i64.wrap (a0 + a1)) - (1 : Int))).tdiv a1))))), (9, .own 1 (p.2.1.map (cL 1 (cI .i64)))), (10, .clo 17 [.bp 3 0]), (57, .d (.v (.int .i64 (IntKind.i64.wrap ((IntKind.i64.wrap ((IntKind.i64.wrap (a0 + a1)) - (1 : Int))).tdiv a1))))), (58, .d (.v (.int .i64 p.2.2)))]) (a0, [], (0 : Int))) (by show _ = _; kernel_rfl) ?_
            refine T_block ?_
            refine T_loopF (ι := Int × (List (List Int)) × Int) (fun (p : Int × (List (List Int)) × Int) => [(1, .d (.v (.int .i64 a1))), (2, .d (.v (.int .i64 a2))), (3, .box [.d (.v (.int .i64 p.1))]), (8, .d (.v (.int .i64 (IntKind.i64.wrap ((IntKind.i64.wrap ((IntKind.i64.wrap (a0 + a1)) - (1 : Int))).tdiv a1))))), (9, .own 1 (p.2.1.map (cL 1 (cI .i64)))), (10, .clo 17 [.bp 3 0]), (57, .d (.v (.int .i64 (IntKind.i64.wrap ((IntKind.i64.wrap ((IntKind.i64.wrap (a0 + a1)) - (1 : Int))).tdiv a1))))), (58, .d (.v (.int .i64 p.2.2)))]) (fun n p => f7_L1 F a0 a1 a2 n p.1 p.2.1 p.2.2 = some s) (fun i hh => by simp [f7_L1] at hh) (fun n p h => ?_) F (a0, [], (0 : Int)) h
            obtain ⟨v1, v2, v3⟩ := p
            have h : f7_L1 F a0 a1 a2 (n + 1) v1 v2 v3 = some s := h
            rw [f7_L1] at h
            obtain ⟨z1, hz4, h⟩ := lett_ok h
            refine T_region [(0, { rw := some (.d (.v (.bool z1))) })] [1, 2, 3, 8, 9, 10, 57, 58, 59] [] [(1, .d (.v (.int .i64 a1))), (2, .d (.v (.int .i64 a2))), (3, .box [.d (.v (.int .i64 v1))]), (8, .d (.v (.int .i64 (IntKind.i64.wrap ((IntKind.i64.wrap ((IntKind.i64.wrap (a0 + a1)) - (1 : Int))).tdiv a1))))), (9, .own 1 (v2.map (cL 1 (cI .i64)))), (10, .clo 17 [.bp 3 0]), (57, .d (.v (.int .i64 (IntKind.i64.wrap ((IntKind.i64.wrap ((IntKind.i64.wrap (a0 + a1)) - (1 : Int))).tdiv a1))))), (58, .d (.v (.int .i64 v3))), (59, .d (.v (.bool z1)))] [(0, (True) ∧ AV.d (.v (.bool (decide (v3 < (IntKind.i64.wrap ((IntKind.i64.wrap ((IntKind.i64.wrap (a0 + a1)) - (1 : Int))).tdiv a1)))))) = .d (.v (.bool z1)))] 0 (by kernel_rfl) (⟨trivial, (by subst hz4; rfl)⟩) ?_
            refine T_seqk ?_
            refine T_cond z1 (by kernel_rfl) (fun hc => ?_) (fun hc => ?_)
            · have h := cond_tt hc h
              refine T_skip fun a w hm => then_norm (((?_ : T Try.prog e 99 _ _ _) a w hm))
              refine T_joinc h (fun (p : Int × (List (List Int))) => [(1, .d (.v (.int .i64 a1))), (2, .d (.v (.int .i64 a2))), (3, .box [.d (.v (.int .i64 p.1))]), (8, .d (.v (.int .i64 (IntKind.i64.wrap ((IntKind.i64.wrap ((IntKind.i64.wrap (a0 + a1)) - (1 : Int))).tdiv a1))))), (9, .own 1 (p.2.map (cL 1 (cI .i64)))), (10, .clo 17 [.bp 3 0]), (57, .d (.v (.int .i64 (IntKind.i64.wrap ((IntKind.i64.wrap ((IntKind.i64.wrap (a0 + a1)) - (1 : Int))).tdiv a1))))), (58, .d (.v (.int .i64 v3)))]) (fun s h => ?_) (fun s h => ?_)
              · refine T_block ?_
                refine T_region [] [1, 2, 3, 8, 9, 10, 11, 57, 58] [] [(1, .d (.v (.int .i64 a1))), (2, .d (.v (.int .i64 a2))), (3, .box [.d (.v (.int .i64 v1))]), (8, .d (.v (.int .i64 (IntKind.i64.wrap ((IntKind.i64.wrap ((IntKind.i64.wrap (a0 + a1)) - (1 : Int))).tdiv a1))))), (9, .own 1 (v2.map (cL 1 (cI .i64)))), (10, .clo 17 [.bp 3 0]), (11, .d (.v (.int .i64 v3))), (57, .d (.v (.int .i64 (IntKind.i64.wrap ((IntKind.i64.wrap ((IntKind.i64.wrap (a0 + a1)) - (1 : Int))).tdiv a1))))), (58, .d (.v (.int .i64 v3)))] [] 2 (by kernel_rfl) (trivial) ?_
                refine T_seqk ?_
                refine T_region [] [1, 2, 3, 8, 9, 10, 11, 57, 58, 62] [] [(1, .d (.v (.int .i64 a1))), (2, .d (.v (.int .i64 a2))), (3, .box [.d (.v (.int .i64 v1))]), (8, .d (.v (.int .i64 (IntKind.i64.wrap ((IntKind.i64.wrap ((IntKind.i64.wrap (a0 + a1)) - (1 : Int))).tdiv a1))))), (9, .own 1 (v2.map (cL 1 (cI .i64)))), (10, .clo 17 [.bp 3 0]), (11, .d (.v (.int .i64 v3))), (57, .d (.v (.int .i64 (IntKind.i64.wrap ((IntKind.i64.wrap ((IntKind.i64.wrap (a0 + a1)) - (1 : Int))).tdiv a1))))), (58, .d (.v (.int .i64 v3))), (62, .d (.v (.bool (a2 == (0 : Int)))))] [] 2 (by kernel_rfl) (trivial) ?_
                refine T_cond (a2 == (0 : Int)) (by kernel_rfl) (fun hc => ?_) (fun hc => ?_)
                · have h := cond_tt hc h
                  obtain ⟨y1, hy1, h⟩ := call_ok h
                  obtain ⟨hp2, h⟩ := chk_ok h
                  refine T_region [(7, { res := .own 1 (y1.1.map (cI .i64)), vout := [[.d (.v (.int .i64 y1.2))]], xs := [3] }), (8, { frz := [(70, 0)], es := some (([y1.1]).map (cL 1 (cI .i64))) }), (9, { es := some ((v2 ++ ([y1.1])).map (cL 1 (cI .i64))) })] [1, 2, 3, 8, 9, 10, 57, 58] [] [(1, .d (.v (.int .i64 a1))), (2, .d (.v (.int .i64 a2))), (3, .box [.d (.v (.int .i64 y1.2))]), (8, .d (.v (.int .i64 (IntKind.i64.wrap ((IntKind.i64.wrap ((IntKind.i64.wrap (a0 + a1)) - (1 : Int))).tdiv a1))))), (9, .own 1 ((v2 ++ ([y1.1])).map (cL 1 (cI .i64)))), (10, .clo 17 [.bp 3 0]), (57, .d (.v (.int .i64 (IntKind.i64.wrap ((IntKind.i64.wrap ((IntKind.i64.wrap (a0 + a1)) - (1 : Int))).tdiv a1))))), (58, .d (.v (.int .i64 v3)))] [(7, ACall Try.prog 17 [.d (.v (.slice none 0 0)), .d (.v (.int .i64 (IntKind.i64.wrap ((IntKind.i64.wrap (v3 * a1)) + (1 : Int))))), .d (.v (.int .i64 a1)), .bp 1000000 0] [[.d (.v (.int .i64 v1))]] (.own 1 (y1.1.map (cI .i64))) [[.d (.v (.int .i64 y1.2))]]), (0, (([y1.1]).map (cL 1 (cI .i64))) = (([y1.1]).map (cL 1 (cI .i64)))), (0, (v2.map (cL 1 (cI .i64))).length + (([y1.1]).map (cL 1 (cI .i64))).length ≤ 4294967296 ∧ (v2.map (cL 1 (cI .i64))) ++ (([y1.1]).map (cL 1 (cI .i64))) = ((v2 ++ ([y1.1])).map (cL 1 (cI .i64))))] 1 (by kernel_rfl) (⟨(ACall.nilArgOwn 0 (f17_ok hy1) rfl rfl (by decide) rfl), rfl, app_ok (cL 1 (cI .i64)) hp2⟩) ?_
                  obtain hs := Option.some.inj h; subst hs
                  refine T_exit fun a w hm => then_exit (inBlock_exit (then_norm (hm.co (cs := [.keep [1, 2, 3, 8, 9, 10, 57, 58]]) (by show _ = _; kernel_rfl))))
                · have h := cond_ff hc h
                  refine T_skip fun a w hm => then_norm (((?_ : T Try.prog e 99 _ _ _) a w hm))
                  refine T_region [] [1, 2, 3, 8, 9, 10, 11, 12, 57, 58] [] [(1, .d (.v (.int .i64 a1))), (2, .d (.v (.int .i64 a2))), (3, .box [.d (.v (.int .i64 v1))]), (8, .d (.v (.int .i64 (IntKind.i64.wrap ((IntKind.i64.wrap ((IntKind.i64.wrap (a0 + a1)) - (1 : Int))).tdiv a1))))), (9, .own 1 (v2.map (cL 1 (cI .i64)))), (10, .clo 17 [.bp 3 0]), (11, .d (.v (.int .i64 v3))), (12, .d (.v (.int .i64 (IntKind.i64.wrap (a1.tdiv (2 : Int)))))), (57, .d (.v (.int .i64 (IntKind.i64.wrap ((IntKind.i64.wrap ((IntKind.i64.wrap (a0 + a1)) - (1 : Int))).tdiv a1))))), (58, .d (.v (.int .i64 v3)))] [(1, (2 : Int) ≠ 0)] 1 (by kernel_rfl) ((show (2 : Int) ≠ 0 by decide)) ?_
                  obtain ⟨y2, hy2, h⟩ := call_ok h
                  obtain ⟨z2, hz5, h⟩ := lett_ok h
                  obtain ⟨z3, hz6, h⟩ := lett_ok h
                  obtain ⟨y3, hy3, h⟩ := call_ok h
                  obtain ⟨hp3, h⟩ := chk_ok h
                  obtain hs := Option.some.inj h; subst hs
                  refine T_region_end [(8, { res := .own 1 (y2.1.map (cI .i64)), vout := [[.d (.v (.int .i64 y2.2))]], xs := [3] }), (11, { rw := some (.d (.v (.int .i64 z2))) }), (16, { rw := some (.d (.v (.int .i64 z3))) }), (19, { res := .own 1 (y3.1.map (cI .i64)), vout := [[.d (.v (.int .i64 y3.2))]], xs := [3], take := [0] }), (20, { frz := [(94, 0)], es := some (([y3.1]).map (cL 1 (cI .i64))) }), (21, { es := some ((v2 ++ ([y3.1])).map (cL 1 (cI .i64))) })] [1, 2, 3, 8, 9, 10, 57, 58] [] [(1, .d (.v (.int .i64 a1))), (2, .d (.v (.int .i64 a2))), (3, .box [.d (.v (.int .i64 y3.2))]), (8, .d (.v (.int .i64 (IntKind.i64.wrap ((IntKind.i64.wrap ((IntKind.i64.wrap (a0 + a1)) - (1 : Int))).tdiv a1))))), (9, .own 1 ((v2 ++ ([y3.1])).map (cL 1 (cI .i64)))), (10, .clo 17 [.bp 3 0]), (57, .d (.v (.int .i64 (IntKind.i64.wrap ((IntKind.i64.wrap ((IntKind.i64.wrap (a0 + a1)) - (1 : Int))).tdiv a1))))), (58, .d (.v (.int .i64 v3)))] [(8, ACall Try.prog 17 [.d (.v (.slice none 0 0)), .d (.v (.int .i64 (IntKind.i64.wrap ((IntKind.i64.wrap (v3 * (IntKind.i64.wrap (a1.tdiv (2 : Int))))) + (1 : Int))))), .d (.v (.int .i64 (IntKind.i64.wrap (a1.tdiv (2 : Int))))), .bp 1000000 0] [[.d (.v (.int .i64 v1))]] (.own 1 (y2.1.map (cI .i64))) [[.d (.v (.int .i64 y2.2))]]), (2, (True) ∧ AV.d (.v (.int .i64 (IntKind.i64.wrap ((IntKind.i64.wrap ((IntKind.i64.wrap ((IntKind.i64.wrap (a0 + a1)) - (1 : Int))).tdiv a1)) * a1)))) = .d (.v (.int .i64 z2))), (4, (True) ∧ AV.d (.v (.int .i64 (IntKind.i64.wrap (z2 - (IntKind.i64.wrap ((IntKind.i64.wrap (v3 + (1 : Int))) * (IntKind.i64.wrap (a1.tdiv (2 : Int))))))))) = .d (.v (.int .i64 z3))), (2, ACall Try.prog 17 [.own 1 (y2.1.map (cI .i64)), .d (.v (.int .i64 (IntKind.i64.wrap (z3 + (1 : Int))))), .d (.v (.int .i64 (IntKind.i64.wrap (a1.tdiv (2 : Int))))), .bp 1000000 0] [[.d (.v (.int .i64 y2.2))]] (.own 1 (y3.1.map (cI .i64))) [[.d (.v (.int .i64 y3.2))]]), (0, (([y3.1]).map (cL 1 (cI .i64))) = (([y3.1]).map (cL 1 (cI .i64)))), (0, (v2.map (cL 1 (cI .i64))).length + (([y3.1]).map (cL 1 (cI .i64))).length ≤ 4294967296 ∧ (v2.map (cL 1 (cI .i64))) ++ (([y3.1]).map (cL 1 (cI .i64))) = ((v2 ++ ([y3.1])).map (cL 1 (cI .i64))))] 1 (by kernel_rfl) (⟨(ACall.nilArgOwn 0 (f17_ok hy2) rfl rfl (by decide) rfl), ⟨trivial, (by subst hz5; rfl)⟩, ⟨trivial, (by subst hz6; rfl)⟩, f17_ok hy3, rfl, app_ok (cL 1 (cI .i64)) hp3⟩) fun a w hm => inBlock_norm (then_norm (hm.co (cs := [.keep [1, 2, 3, 8, 9, 10, 57, 58]]) (by show _ = _; kernel_rfl)))
              · obtain ⟨v4, v5⟩ := s
                try dsimp only at h
                refine T_region_end [] [1, 2, 3, 8, 9, 10, 57, 58] [] [(1, .d (.v (.int .i64 a1))), (2, .d (.v (.int .i64 a2))), (3, .box [.d (.v (.int .i64 v4))]), (8, .d (.v (.int .i64 (IntKind.i64.wrap ((IntKind.i64.wrap ((IntKind.i64.wrap (a0 + a1)) - (1 : Int))).tdiv a1))))), (9, .own 1 (v5.map (cL 1 (cI .i64)))), (10, .clo 17 [.bp 3 0]), (57, .d (.v (.int .i64 (IntKind.i64.wrap ((IntKind.i64.wrap ((IntKind.i64.wrap (a0 + a1)) - (1 : Int))).tdiv a1))))), (58, .d (.v (.int .i64 (IntKind.i64.wrap (v3 + (1 : Int))))))] [] 2 (by kernel_rfl) (trivial) fun a w hm => then_norm (⟨(v4, v5, IntKind.i64.wrap (v3 + (1 : Int))), h, hm.co (cs := [.keep [1, 2, 3, 8, 9, 10, 57, 58]]) (by show _ = _; kernel_rfl)⟩)
            · have h := cond_ff hc h
              obtain hs := Option.some.inj h; subst hs
              refine T_exit fun a w hm => then_exit (then_exit (inBlock_exit (then_norm (hm.co (cs := [.keep [9]]) (by show _ = _; kernel_rfl)))))
          · skip
            refine fun a w hm => then_norm (((?_ : T Try.prog e 99 _ _ _) a w hm))
            refine T_region [] [6, 7, 9] [] [(6, .vw (9, 0)), (7, .d (.v (.int .i64 (0 : Int)))), (9, .own 1 (v6.map (cL 1 (cI .i64))))] [] 3 (by kernel_rfl) (trivial) ?_
            obtain hs := Option.some.inj h; subst hs
            refine T_ret fun a w hm => T_return (fr' := [(6, .own 1 (v6.map (cL 1 (cI .i64)))), (7, .d (.v (.int .i64 (0 : Int))))]) [6, 7] (by kernel_rfl) [.claim 6, .keep [6, 7]] (by kernel_rfl) (by kernel_rfl) (by kernel_rfl) (by show _ = _; kernel_rfl) (by exact trivial) a w hm

theorem f11_ok {F : Nat} {a0 : List Int} {a1 : List Int} {r : Bool} (h : f11 F a0 a1 = some r) : ACall Try.prog 11 [.d (.sl 1 (a0.map (cI .i64))), .d (.sl 1 (a1.map (cI .i64)))] [] (.d (.v (.bool r))) [] := by
  rw [f11] at h
  refine ACall.intro (N := 26) Try.func11 rfl rfl rfl rfl rfl fun e => ?_
  refine T_region [] [0, 1] [] [(0, .d (.sl 1 (a0.map (cI .i64)))), (1, .d (.sl 1 (a1.map (cI .i64))))] [] 1 (by kernel_rfl) (trivial) ?_
  refine T_seqk ?_
  refine T_region [(1, { rw := some (.d (.v (.int .i64 (a0.length : Int)))) }), (3, { rw := some (.d (.v (.int .i64 (a1.length : Int)))) })] [0, 1, 10] [] [(0, .d (.sl 1 (a0.map (cI .i64)))), (1, .d (.sl 1 (a1.map (cI .i64)))), (10, .d (.v (.bool ((a0.length : Int) != (a1.length : Int)))))] [(1, True ∧ AV.d (.v (.int .i64 ((a0.map (cI .i64)).length : Int))) = .d (.v (.int .i64 (a0.length : Int)))), (1, True ∧ AV.d (.v (.int .i64 ((a1.map (cI .i64)).length : Int))) = .d (.v (.int .i64 (a1.length : Int))))] 1 (by kernel_rfl) (⟨len_ok (cI .i64), len_ok (cI .i64)⟩) ?_
  refine T_cond ((a0.length : Int) != (a1.length : Int)) (by kernel_rfl) (fun hc => ?_) (fun hc => ?_)
  · have h := cond_tt hc h
    refine T_region [] [4] [] [(4, .d (.v (.bool false)))] [] 1 (by kernel_rfl) (trivial) ?_
    obtain hs := Option.some.inj h; subst hs
    refine T_ret fun a w hm => then_ret (T_return (fr' := [(4, .d (.v (.bool false)))]) [4] (by kernel_rfl) [.keep [4]] (by kernel_rfl) (by kernel_rfl) (by kernel_rfl) (by show _ = _; kernel_rfl) (by exact trivial) a w hm)
  · have h := cond_ff hc h
    refine T_skip fun a w hm => then_norm (((?_ : T Try.prog e 26 _ _ _) a w hm))
    refine T_seqk ?_
    refine T_region [(1, { rw := some (.d (.v (.int .i64 (a0.length : Int)))) })] [0, 1, 12, 13] [] [(0, .d (.sl 1 (a0.map (cI .i64)))), (1, .d (.sl 1 (a1.map (cI .i64)))), (12, .d (.v (.int .i64 (a0.length : Int)))), (13, .d (.v (.int .i64 (0 : Int))))] [(1, True ∧ AV.d (.v (.int .i64 ((a0.map (cI .i64)).length : Int))) = .d (.v (.int .i64 (a0.length : Int))))] 1 (by kernel_rfl) (len_ok (cI .i64)) ?_
    refine T_joinEt h (fun (p : Unit) => []) (fun s h hk1 => ?_) (fun s h => ?_)
    · refine T_co [.keep [0, 1, 12, 13]] ((fun (p : Int) => [(0, .d (.sl 1 (a0.map (cI .i64)))), (1, .d (.sl 1 (a1.map (cI .i64)))), (12, .d (.v (.int .i64 (a0.length : Int)))), (13, .d (.v (.int .i64 p)))]) (0 : Int)) (by show _ = _; kernel_rfl) ?_
      refine T_block ?_
      refine T_loopF (ι := Int) (fun (p : Int) => [(0, .d (.sl 1 (a0.map (cI .i64)))), (1, .d (.sl 1 (a1.map (cI .i64)))), (12, .d (.v (.int .i64 (a0.length : Int)))), (13, .d (.v (.int .i64 p)))]) (fun n p => f11_L0 F a0 a1 n p = some s) (fun i hh => by simp [f11_L0] at hh) (fun n v1 h => ?_) F (0 : Int) h
      have h : f11_L0 F a0 a1 (n + 1) v1 = some s := h
      rw [f11_L0] at h
      refine T_region [] [0, 1, 12, 13, 14] [] [(0, .d (.sl 1 (a0.map (cI .i64)))), (1, .d (.sl 1 (a1.map (cI .i64)))), (12, .d (.v (.int .i64 (a0.length : Int)))), (13, .d (.v (.int .i64 v1))), (14, .d (.v (.bool (decide (v1 < (a0.length : Int))))))] [] 1 (by kernel_rfl) (trivial) ?_
      refine T_seqk ?_
      refine T_cond (decide (v1 < (a0.length : Int))) (by kernel_rfl) (fun hc => ?_) (fun hc => ?_)
      · have h := cond_tt hc h
        refine T_skip fun a w hm => then_norm (((?_ : T Try.prog e 26 _ _ _) a w hm))
        refine T_seqk ?_
        refine T_block ?_
        refine T_region [] [0, 1, 5, 12, 13] [] [(0, .d (.sl 1 (a0.map (cI .i64)))), (1, .d (.sl 1 (a1.map (cI .i64)))), (5, .d (.v (.int .i64 v1))), (12, .d (.v (.int .i64 (a0.length : Int)))), (13, .d (.v (.int .i64 v1)))] [] 2 (by kernel_rfl) (trivial) ?_
        obtain ⟨hp1, h⟩ := chk_ok h
        obtain ⟨hp2, h⟩ := chk_ok h
        refine T_draw mixed [(2, { cs := (cI .i64) (a0.getD v1.toNat 0) }), (6, { cs := (cI .i64) (a1.getD v1.toNat 0) })] [0, 1, 12, 13, 24] [] [(0, .d (.sl 1 (a0.map (cI .i64)))), (1, .d (.sl 1 (a1.map (cI .i64)))), (12, .d (.v (.int .i64 (a0.length : Int)))), (13, .d (.v (.int .i64 v1))), (24, .d (.v (.bool ((a0.getD v1.toNat 0) != (a1.getD v1.toNat 0)))))] [(2, 0 ≤ v1 ∧ (a0.map (cI .i64))[v1.toNat]? = some ((cI .i64) (a0.getD v1.toNat 0))), (3, 0 ≤ v1 ∧ (a1.map (cI .i64))[v1.toNat]? = some ((cI .i64) (a1.getD v1.toNat 0)))] 2 (by kernel_rfl) (⟨idx_ok (d := 0) (cI .i64) hp1, idx_ok (d := 0) (cI .i64) hp2⟩) ?_
        refine T_cond ((a0.getD v1.toNat 0) != (a1.getD v1.toNat 0)) (by kernel_rfl) (fun hc => ?_) (fun hc => ?_)
        · have h := cond_tt hc h
          refine T_region [] [4] [] [(4, .d (.v (.bool false)))] [] 1 (by kernel_rfl) (trivial) ?_
          obtain hs := Option.some.inj h; subst hs
          have h := callE_esc hk1
          obtain hs := Option.some.inj h; subst hs
          refine T_ret fun a w hm => inBlock_ret (then_ret (then_ret (inBlock_ret (then_ret (then_ret (T_return (fr' := [(4, .d (.v (.bool false)))]) [4] (by kernel_rfl) [.keep [4]] (by kernel_rfl) (by kernel_rfl) (by kernel_rfl) (by show _ = _; kernel_rfl) (by exact trivial) a w hm))))))
        · have h := cond_ff hc h
          refine T_skip fun a w hm => inBlock_norm (then_norm (((?_ : T Try.prog e 26 _ _ _) a w hm)))
          refine T_region_end [] [0, 1, 12, 13] [] [(0, .d (.sl 1 (a0.map (cI .i64)))), (1, .d (.sl 1 (a1.map (cI .i64)))), (12, .d (.v (.int .i64 (a0.length : Int)))), (13, .d (.v (.int .i64 (IntKind.i64.wrap (v1 + (1 : Int))))))] [] 2 (by kernel_rfl) (trivial) fun a w hm => then_norm (⟨IntKind.i64.wrap (v1 + (1 : Int)), h, hm.co (cs := [.keep [0, 1, 12, 13]]) (by show _ = _; kernel_rfl)⟩)
      · have h := cond_ff hc h
        obtain hs := Option.some.inj h; subst hs
        refine T_exit fun a w hm => then_exit (then_exit (inBlock_exit (then_norm (⟨_, rfl, hm.co (cs := [.keep []]) (by show _ = _; kernel_rfl)⟩))))
    · skip
      refine fun a w hm => then_norm (((?_ : T Try.prog e 26 _ _ _) a w hm))
      refine T_region [] [4] [] [(4, .d (.v (.bool true)))] [] 1 (by kernel_rfl) (trivial) ?_
      obtain hs := Option.some.inj h; subst hs
      refine T_ret fun a w hm => T_return (fr' := [(4, .d (.v (.bool true)))]) [4] (by kernel_rfl) [.keep [4]] (by kernel_rfl) (by kernel_rfl) (by kernel_rfl) (by show _ = _; kernel_rfl) (by exact trivial) a w hm

theorem f6_ok {F : Nat}  {r : Bool} (h : f6 F  = some r) : ACall Try.prog 6 [] [] (.d (.v (.bool r))) [] := by
  rw [f6] at h
  refine ACall.intro (N := 28) Try.func6 rfl rfl rfl rfl rfl fun e => ?_
  refine T_region [] [] [] [] [] 1 (by kernel_rfl) (trivial) ?_
  obtain ⟨y1, hy1, h⟩ := call_ok h
  refine T_region [(0, { res := .tup [.own 1 (y1.1.map (cL 1 (cI .i64))), .d (.v (.int .i64 y1.2))] })] [1, 2] [] [(1, .own 1 (y1.1.map (cL 1 (cI .i64)))), (2, .d (.v (.int .i64 y1.2)))] [(0, ACall Try.prog 7 [.d (.v (.int .i64 (6 : Int))), .d (.v (.int .i64 (4 : Int))), .d (.v (.int .i64 (1 : Int)))] [] (.tup [.own 1 (y1.1.map (cL 1 (cI .i64))), .d (.v (.int .i64 y1.2))]) [])] 5 (by kernel_rfl) (f7_ok hy1) ?_
  obtain ⟨hp1, h⟩ := chk_ok h
  obtain ⟨y2, hy2, h⟩ := call_ok h
  obtain ⟨z1, hz1, h⟩ := lett_ok h
  obtain ⟨hp2, h⟩ := chk_ok h
  obtain ⟨y3, hy3, h⟩ := call_ok h
  refine T_region [(4, { rw := some (.d (.v (.int .i64 (y1.1.length : Int)))) }), (10, { cs := (cL 1 (cI .i64)) (y1.1.getD (0 : Int).toNat []) }), (11, { es := some (([(1 : Int), (2 : Int), (0 : Int), (0 : Int)]).map (cI .i64)) }), (12, { res := .d (.v (.bool y2)) }), (13, { rw := some (.d (.v (.bool z1))) }), (17, { cs := (cL 1 (cI .i64)) (y1.1.getD (1 : Int).toNat []) }), (18, { es := some (([(3 : Int), (4 : Int), (5 : Int), (6 : Int)]).map (cI .i64)) }), (19, { res := .d (.v (.bool y3)) })] [0] [] [(0, .d (.v (.bool (bif z1 then y3 else false))))] [(3, ((((y1.2 == (0 : Int)) == true) && true) = true → True)), (0, ((((y1.2 == (0 : Int)) == true) && true) = true → True ∧ AV.d (.v (.int .i64 ((y1.1.map (cL 1 (cI .i64))).length : Int))) = .d (.v (.int .i64 (y1.1.length : Int))))), (0, ((((y1.2 == (0 : Int)) == true) && true) = true → True)), (2, ((((bif (y1.2 == (0 : Int)) then ((y1.1.length : Int) == (2 : Int)) else false) == true) && true) = true → True)), (0, ((((bif (y1.2 == (0 : Int)) then ((y1.1.length : Int) == (2 : Int)) else false) == true) && true) = true → 0 ≤ (0 : Int) ∧ (0 : Int) < (y1.1.map (cL 1 (cI .i64))).length)), (0, ((((bif (y1.2 == (0 : Int)) then ((y1.1.length : Int) == (2 : Int)) else false) == true) && true) = true → (y1.1.map (cL 1 (cI .i64)))[(0 : Int).toNat]? = some ((cL 1 (cI .i64)) (y1.1.getD (0 : Int).toNat [])))), (0, ((((bif (y1.2 == (0 : Int)) then ((y1.1.length : Int) == (2 : Int)) else false) == true) && true) = true → (([(1 : Int), (2 : Int), (0 : Int), (0 : Int)]).map (cI .i64)) = (([(1 : Int), (2 : Int), (0 : Int), (0 : Int)]).map (cI .i64)))), (0, ((((bif (y1.2 == (0 : Int)) then ((y1.1.length : Int) == (2 : Int)) else false) == true) && true) = true → ACall Try.prog 11 [.d (.sl 1 ((y1.1.getD (0 : Int).toNat []).map (cI .i64))), .d (.sl 1 (([(1 : Int), (2 : Int), (0 : Int), (0 : Int)]).map (cI .i64)))] [] (.d (.v (.bool y2))) [])), (0, (True) ∧ AV.d (.v (.bool (bif (bif (y1.2 == (0 : Int)) then ((y1.1.length : Int) == (2 : Int)) else false) then y2 else false))) = .d (.v (.bool z1))), (1, (((z1 == true) && true) = true → True)), (0, (((z1 == true) && true) = true → 0 ≤ (1 : Int) ∧ (1 : Int) < (y1.1.map (cL 1 (cI .i64))).length)), (0, (((z1 == true) && true) = true → (y1.1.map (cL 1 (cI .i64)))[(1 : Int).toNat]? = some ((cL 1 (cI .i64)) (y1.1.getD (1 : Int).toNat [])))), (0, (((z1 == true) && true) = true → (([(3 : Int), (4 : Int), (5 : Int), (6 : Int)]).map (cI .i64)) = (([(3 : Int), (4 : Int), (5 : Int), (6 : Int)]).map (cI .i64)))), (0, (((z1 == true) && true) = true → ACall Try.prog 11 [.d (.sl 1 ((y1.1.getD (1 : Int).toNat []).map (cI .i64))), .d (.sl 1 (([(3 : Int), (4 : Int), (5 : Int), (6 : Int)]).map (cI .i64)))] [] (.d (.v (.bool y3))) []))] 2 (by kernel_rfl) (⟨(fun hg => trivial), (fun hg => len_ok (cL 1 (cI .i64))), (fun hg => trivial), (fun hg => trivial), (fun hg => own_idx (cL 1 (cI .i64)) (hp1 hg)), (fun hg => (idx_ok (d := []) (cL 1 (cI .i64)) (hp1 hg)).2), (fun hg => rfl), (fun hg => f11_ok (gcall_ok hg hy2)), ⟨trivial, (by subst hz1; rfl)⟩, (fun hg => trivial), (fun hg => own_idx (cL 1 (cI .i64)) (hp2 hg)), (fun hg => (idx_ok (d := []) (cL 1 (cI .i64)) (hp2 hg)).2), (fun hg => rfl), (fun hg => f11_ok (gcall_ok hg hy3))⟩) ?_
  obtain hs := Option.some.inj h; subst hs
  refine T_ret fun a w hm => T_return (fr' := [(0, .d (.v (.bool (bif z1 then y3 else false))))]) [0] (by kernel_rfl) [.keep [0]] (by kernel_rfl) (by kernel_rfl) (by kernel_rfl) (by show _ = _; kernel_rfl) (by exact trivial) a w hm

theorem f24_ok {F : Nat} {a0 : Int} {r : (List Int)} (h : f24 F a0 = some r) : ACall Try.prog 24 [.d (.v (.slice none 0 0)), .d (.v (.int .i64 a0))] [] (.own 1 (r.map (cI .i64))) [] := by
  rw [f24] at h
  refine ACall.intro (N := 27) Try.func24 rfl rfl rfl rfl rfl fun e => ?_
  refine T_region [] [0, 1] [] [(0, .d (.v (.slice none 0 0))), (1, .d (.v (.int .i64 a0)))] [] 1 (by kernel_rfl) (trivial) ?_
  refine T_seqk ?_
  refine T_region [] [0, 1, 6] [] [(0, .d (.v (.slice none 0 0))), (1, .d (.v (.int .i64 a0))), (6, .d (.v (.bool (decide (a0 < (0 : Int))))))] [] 2 (by kernel_rfl) (trivial) ?_
  refine T_cond (decide (a0 < (0 : Int))) (by kernel_rfl) (fun hc => ?_) (fun hc => ?_)
  · have h := cond_tt hc h
    cases h
  · have h := cond_ff hc h
    refine T_skip fun a w hm => then_norm (((?_ : T Try.prog e 27 _ _ _) a w hm))
    refine T_joinc h (fun (p : (List Int)) => [(0, .own 1 (p.map (cI .i64)))]) (fun s h => ?_) (fun v1 h => ?_)
    · refine T_region [] [0, 1] [] [(0, .d (.v (.slice none 0 0))), (1, .d (.v (.int .i64 (IntKind.i64.wrap (a0 - (IntKind.i64.wrap ((0 : Int) - (([] : List Int).length : Int))))))))] [] 8 (by kernel_rfl) (trivial) ?_
      obtain ⟨z1, hz1, h⟩ := lett_ok h
      refine T_region [(1, { rw := some (.d (.v (.bool z1))) })] [0, 1, 16] [] [(0, .d (.v (.slice none 0 0))), (1, .d (.v (.int .i64 (IntKind.i64.wrap (a0 - (IntKind.i64.wrap ((0 : Int) - (([] : List Int).length : Int)))))))), (16, .d (.v (.bool z1)))] [(1, (True) ∧ AV.d (.v (.bool (decide ((IntKind.i64.wrap (a0 - (IntKind.i64.wrap ((0 : Int) - (([] : List Int).length : Int))))) > (0 : Int))))) = .d (.v (.bool z1)))] 0 (by kernel_rfl) (⟨trivial, (by subst hz1; rfl)⟩) ?_
      refine T_cond z1 (by kernel_rfl) (fun hc => ?_) (fun hc => ?_)
      · have h := cond_tt hc h
        obtain ⟨hp1, h⟩ := chk_ok h
        obtain ⟨hp2, h⟩ := chk_ok h
        obtain ⟨l1, hl1, h⟩ := lett_ok h
        obtain ⟨hp3, h⟩ := chk_ok h
        obtain hs := Option.some.inj h; subst hs
        refine T_region_end [(5, { es := some (l1.map (cI .i64)) }), (8, { take := [0], es := some ((l1.take (([] : List Int).length : Int).toNat).map (cI .i64)) })] [0] [] [(0, .own 1 ((l1.take (([] : List Int).length : Int).toNat).map (cI .i64)))] [(3, 0 ≤ (0 : Int) ∧ (0 : Int) ≤ (0 : Int) ∧ (0 : Int) ≤ 0), (1, (0 < (IntKind.i64.wrap (a0 - (IntKind.i64.wrap ((0 : Int) - (([] : List Int).length : Int))))) ∧ (IntKind.i64.wrap (a0 - (IntKind.i64.wrap ((0 : Int) - (([] : List Int).length : Int))))) ≤ 4294967296) ∧ List.replicate (IntKind.i64.wrap (a0 - (IntKind.i64.wrap ((0 : Int) - (([] : List Int).length : Int))))).toNat ((cI .i64) 0) = (l1.map (cI .i64))), (2, (0 ≤ (([] : List Int).length : Int) ∧ (([] : List Int).length : Int) ≤ ((l1.map (cI .i64)).length : Int)) ∧ (l1.map (cI .i64)).take (([] : List Int).length : Int).toNat = ((l1.take (([] : List Int).length : Int).toNat).map (cI .i64)))] 1 (by kernel_rfl) (⟨hp1, and_trans (⟨hp2, repl_ok (cI .i64) rfl⟩) (by subst hl1; rfl), take_ok (cI .i64) hp3⟩) fun a w hm => then_norm (hm.co (cs := [.keep [0]]) (by show _ = _; kernel_rfl))
      · have h := cond_ff hc h
        obtain hs := Option.some.inj h; subst hs
        refine T_skip fun a w hm => then_norm (hm.co (cs := [.nil 0 1, .keep [0]]) (by show _ = _; kernel_rfl))
    · skip
      refine T_region [] [0, 4] [] [(0, .own 1 (v1.map (cI .i64))), (4, .vw (0, 0))] [] 2 (by kernel_rfl) (trivial) ?_
      obtain hs := Option.some.inj h; subst hs
      refine T_ret fun a w hm => T_return (fr' := [(4, .own 1 (v1.map (cI .i64)))]) [4] (by kernel_rfl) [.claim 4, .keep [4]] (by kernel_rfl) (by kernel_rfl) (by kernel_rfl) (by show _ = _; kernel_rfl) (by exact trivial) a w hm

theorem f18_ok {F : Nat} {a0 : List (List Int)} {r : (List Int)} (h : f18 F a0 = some r) : ACall Try.prog 18 [.d (.sl 1 (a0.map (cL 1 (cI .i64))))] [] (.own 1 (r.map (cI .i64))) [] := by
  rw [f18] at h
  refine ACall.intro (N := 36) Try.func18 rfl rfl rfl rfl rfl fun e => ?_
  refine T_region [] [0] [] [(0, .d (.sl 1 (a0.map (cL 1 (cI .i64)))))] [] 1 (by kernel_rfl) (trivial) ?_
  refine T_region [] [0, 3] [] [(0, .d (.sl 1 (a0.map (cL 1 (cI .i64))))), (3, .d (.v (.int .i64 (0 : Int))))] [] 1 (by kernel_rfl) (trivial) ?_
  refine T_seqk ?_
  refine T_region [(1, { rw := some (.d (.v (.int .i64 (a0.length : Int)))) })] [0, 3, 9, 10, 11] [] [(0, .d (.sl 1 (a0.map (cL 1 (cI .i64))))), (3, .d (.v (.int .i64 (0 : Int)))), (9, .d (.sl 1 (a0.map (cL 1 (cI .i64))))), (10, .d (.v (.int .i64 (a0.length : Int)))), (11, .d (.v (.int .i64 (0 : Int))))] [(1, True ∧ AV.d (.v (.int .i64 ((a0.map (cL 1 (cI .i64))).length : Int))) = .d (.v (.int .i64 (a0.length : Int))))] 1 (by kernel_rfl) (len_ok (cL 1 (cI .i64))) ?_
  refine T_joinct h (fun (p : Int) => [(0, .d (.sl 1 (a0.map (cL 1 (cI .i64))))), (3, .d (.v (.int .i64 p)))]) (fun s h => ?_) (fun v5 h => ?_)
  · refine T_co [.keep [0, 3, 9, 10, 11]] ((fun (p : Int × Int) => [(0, .d (.sl 1 (a0.map (cL 1 (cI .i64))))), (3, .d (.v (.int .i64 p.1))), (9, .d (.sl 1 (a0.map (cL 1 (cI .i64))))), (10, .d (.v (.int .i64 (a0.length : Int)))), (11, .d (.v (.int .i64 p.2)))]) ((0 : Int), (0 : Int))) (by show _ = _; kernel_rfl) ?_
    refine T_block ?_
    refine T_loopF (ι := Int × Int) (fun (p : Int × Int) => [(0, .d (.sl 1 (a0.map (cL 1 (cI .i64))))), (3, .d (.v (.int .i64 p.1))), (9, .d (.sl 1 (a0.map (cL 1 (cI .i64))))), (10, .d (.v (.int .i64 (a0.length : Int)))), (11, .d (.v (.int .i64 p.2)))]) (fun n p => f18_L0 F a0 n p.1 p.2 = some s) (fun i hh => by simp [f18_L0] at hh) (fun n p h => ?_) F ((0 : Int), (0 : Int)) h
    obtain ⟨v1, v2⟩ := p
    have h : f18_L0 F a0 (n + 1) v1 v2 = some s := h
    rw [f18_L0] at h
    refine T_region [] [0, 3, 9, 10, 11, 12] [] [(0, .d (.sl 1 (a0.map (cL 1 (cI .i64))))), (3, .d (.v (.int .i64 v1))), (9, .d (.sl 1 (a0.map (cL 1 (cI .i64))))), (10, .d (.v (.int .i64 (a0.length : Int)))), (11, .d (.v (.int .i64 v2))), (12, .d (.v (.bool (decide (v2 < (a0.length : Int))))))] [] 1 (by kernel_rfl) (trivial) ?_
    refine T_seqk ?_
    refine T_cond (decide (v2 < (a0.length : Int))) (by kernel_rfl) (fun hc => ?_) (fun hc => ?_)
    · have h := cond_tt hc h
      refine T_skip fun a w hm => then_norm (((?_ : T Try.prog e 36 _ _ _) a w hm))
      refine T_seqk ?_
      refine T_block ?_
      obtain ⟨hp1, h⟩ := chk_ok h
      refine T_region [(0, { cs := (cL 1 (cI .i64)) (a0.getD v2.toNat []) })] [0, 3, 5, 9, 10, 11] [] [(0, .d (.sl 1 (a0.map (cL 1 (cI .i64))))), (3, .d (.v (.int .i64 v1))), (5, .d (.sl 1 ((a0.getD v2.toNat []).map (cI .i64)))), (9, .d (.sl 1 (a0.map (cL 1 (cI .i64))))), (10, .d (.v (.int .i64 (a0.length : Int)))), (11, .d (.v (.int .i64 v2)))] [(0, 0 ≤ v2 ∧ (a0.map (cL 1 (cI .i64)))[v2.toNat]? = some ((cL 1 (cI .i64)) (a0.getD v2.toNat [])))] 2 (by kernel_rfl) (idx_ok (d := []) (cL 1 (cI .i64)) hp1) ?_
      refine T_region [(2, { rw := some (.d (.v (.int .i64 ((a0.getD v2.toNat []).length : Int)))) })] [0, 3, 9, 10, 11] [] [(0, .d (.sl 1 (a0.map (cL 1 (cI .i64))))), (3, .d (.v (.int .i64 (IntKind.i64.wrap (v1 + ((a0.getD v2.toNat []).length : Int)))))), (9, .d (.sl 1 (a0.map (cL 1 (cI .i64))))), (10, .d (.v (.int .i64 (a0.length : Int)))), (11, .d (.v (.int .i64 v2)))] [(2, True ∧ AV.d (.v (.int .i64 (((a0.getD v2.toNat []).map (cI .i64)).length : Int))) = .d (.v (.int .i64 ((a0.getD v2.toNat []).length : Int))))] 2 (by kernel_rfl) (len_ok (cI .i64)) ?_
      refine T_region [] [0, 3, 9, 10, 11, 20] [] [(0, .d (.sl 1 (a0.map (cL 1 (cI .i64))))), (3, .d (.v (.int .i64 (IntKind.i64.wrap (v1 + ((a0.getD v2.toNat []).length : Int)))))), (9, .d (.sl 1 (a0.map (cL 1 (cI .i64))))), (10, .d (.v (.int .i64 (a0.length : Int)))), (11, .d (.v (.int .i64 v2))), (20, .d (.v (.bool (decide ((IntKind.i64.wrap (v1 + ((a0.getD v2.toNat []).length : Int))) < (0 : Int))))))] [] 2 (by kernel_rfl) (trivial) ?_
      refine T_cond (decide ((IntKind.i64.wrap (v1 + ((a0.getD v2.toNat []).length : Int))) < (0 : Int))) (by kernel_rfl) (fun hc => ?_) (fun hc => ?_)
      · have h := cond_tt hc h
        cases h
      · have h := cond_ff hc h
        refine T_skip fun a w hm => inBlock_norm (then_norm (((?_ : T Try.prog e 36 _ _ _) a w hm)))
        refine T_region_end [] [0, 3, 9, 10, 11] [] [(0, .d (.sl 1 (a0.map (cL 1 (cI .i64))))), (3, .d (.v (.int .i64 (IntKind.i64.wrap (v1 + ((a0.getD v2.toNat []).length : Int)))))), (9, .d (.sl 1 (a0.map (cL 1 (cI .i64))))), (10, .d (.v (.int .i64 (a0.length : Int)))), (11, .d (.v (.int .i64 (IntKind.i64.wrap (v2 + (1 : Int))))))] [] 2 (by kernel_rfl) (trivial) fun a w hm => then_norm (⟨(IntKind.i64.wrap (v1 + ((a0.getD v2.toNat []).length : Int)), IntKind.i64.wrap (v2 + (1 : Int))), h, hm.co (cs := [.keep [0, 3, 9, 10, 11]]) (by show _ = _; kernel_rfl)⟩)
    · have h := cond_ff hc h
      obtain hs := Option.some.inj h; subst hs
      refine T_exit fun a w hm => then_exit (then_exit (inBlock_exit (then_norm (hm.co (cs := [.keep [0, 3]]) (by show _ = _; kernel_rfl)))))
  · skip
    refine fun a w hm => then_norm (((?_ : T Try.prog e 36 _ _ _) a w hm))
    obtain ⟨y1, hy1, h⟩ := call_ok h
    refine T_region [(1, { res := .own 1 (y1.map (cI .i64)) })] [0, 6] [] [(0, .d (.sl 1 (a0.map (cL 1 (cI .i64))))), (6, .own 1 (y1.map (cI .i64)))] [(1, ACall Try.prog 24 [.d (.v (.slice none 0 0)), .d (.v (.int .i64 v5))] [] (.own 1 (y1.map (cI .i64))) [])] 1 (by kernel_rfl) (f24_ok hy1) ?_
    refine T_seqk ?_
    refine T_region [(1, { rw := some (.d (.v (.int .i64 (a0.length : Int)))) })] [6, 25, 26, 27] [] [(6, .own 1 (y1.map (cI .i64))), (25, .d (.sl 1 (a0.map (cL 1 (cI .i64))))), (26, .d (.v (.int .i64 (a0.length : Int)))), (27, .d (.v (.int .i64 (0 : Int))))] [(1, True ∧ AV.d (.v (.int .i64 ((a0.map (cL 1 (cI .i64))).length : Int))) = .d (.v (.int .i64 (a0.length : Int))))] 1 (by kernel_rfl) (len_ok (cL 1 (cI .i64))) ?_
    refine T_joinct h (fun (p : (List Int)) => [(6, .own 1 (p.map (cI .i64)))]) (fun s h => ?_) (fun v6 h => ?_)
    · refine T_co [.keep [6, 25, 26, 27]] ((fun (p : (List Int) × Int) => [(6, .own 1 (p.1.map (cI .i64))), (25, .d (.sl 1 (a0.map (cL 1 (cI .i64))))), (26, .d (.v (.int .i64 (a0.length : Int)))), (27, .d (.v (.int .i64 p.2)))]) (y1, (0 : Int))) (by show _ = _; kernel_rfl) ?_
      refine T_block ?_
      refine T_loopF (ι := (List Int) × Int) (fun (p : (List Int) × Int) => [(6, .own 1 (p.1.map (cI .i64))), (25, .d (.sl 1 (a0.map (cL 1 (cI .i64))))), (26, .d (.v (.int .i64 (a0.length : Int)))), (27, .d (.v (.int .i64 p.2)))]) (fun n p => f18_L2 F a0 n p.1 p.2 = some s) (fun i hh => by simp [f18_L2] at hh) (fun n p h => ?_) F (y1, (0 : Int)) h
      obtain ⟨v3, v4⟩ := p
      have h : f18_L2 F a0 (n + 1) v3 v4 = some s := h
      rw [f18_L2] at h
      refine T_region [] [6, 25, 26, 27, 28] [] [(6, .own 1 (v3.map (cI .i64))), (25, .d (.sl 1 (a0.map (cL 1 (cI .i64))))), (26, .d (.v (.int .i64 (a0.length : Int)))), (27, .d (.v (.int .i64 v4))), (28, .d (.v (.bool (decide (v4 < (a0.length : Int))))))] [] 1 (by kernel_rfl) (trivial) ?_
      refine T_seqk ?_
      refine T_cond (decide (v4 < (a0.length : Int))) (by kernel_rfl) (fun hc => ?_) (fun hc => ?_)
      · have h := cond_tt hc h
        refine T_skip fun a w hm => then_norm (((?_ : T Try.prog e 36 _ _ _) a w hm))
        refine T_seqk ?_
        refine T_block ?_
        obtain ⟨hp2, h⟩ := chk_ok h
        refine T_region [(0, { cs := (cL 1 (cI .i64)) (a0.getD v4.toNat []) })] [6, 8, 25, 26, 27] [] [(6, .own 1 (v3.map (cI .i64))), (8, .d (.sl 1 ((a0.getD v4.toNat []).map (cI .i64)))), (25, .d (.sl 1 (a0.map (cL 1 (cI .i64))))), (26, .d (.v (.int .i64 (a0.length : Int)))), (27, .d (.v (.int .i64 v4)))] [(0, 0 ≤ v4 ∧ (a0.map (cL 1 (cI .i64)))[v4.toNat]? = some ((cL 1 (cI .i64)) (a0.getD v4.toNat [])))] 2 (by kernel_rfl) (idx_ok (d := []) (cL 1 (cI .i64)) hp2) ?_
        obtain ⟨hp3, h⟩ := chk_ok h
        refine T_region_end [(2, { es := some ((v3 ++ (a0.getD v4.toNat [])).map (cI .i64)) })] [6, 25, 26, 27] [] [(6, .own 1 ((v3 ++ (a0.getD v4.toNat [])).map (cI .i64))), (25, .d (.sl 1 (a0.map (cL 1 (cI .i64))))), (26, .d (.v (.int .i64 (a0.length : Int)))), (27, .d (.v (.int .i64 v4)))] [(2, (v3.map (cI .i64)).length + ((a0.getD v4.toNat []).map (cI .i64)).length ≤ 4294967296 ∧ (v3.map (cI .i64)) ++ ((a0.getD v4.toNat []).map (cI .i64)) = ((v3 ++ (a0.getD v4.toNat [])).map (cI .i64)))] 1 (by kernel_rfl) (app_ok (cI .i64) hp3) fun a w hm => inBlock_norm (then_norm (((?_ : T Try.prog e 36 _ _ _) a w hm)))
        refine T_region_end [] [6, 25, 26, 27] [] [(6, .own 1 ((v3 ++ (a0.getD v4.toNat [])).map (cI .i64))), (25, .d (.sl 1 (a0.map (cL 1 (cI .i64))))), (26, .d (.v (.int .i64 (a0.length : Int)))), (27, .d (.v (.int .i64 (IntKind.i64.wrap (v4 + (1 : Int))))))] [] 2 (by kernel_rfl) (trivial) fun a w hm => then_norm (⟨((v3 ++ (a0.getD v4.toNat [])), IntKind.i64.wrap (v4 + (1 : Int))), h, hm.co (cs := [.keep [6, 25, 26, 27]]) (by show _ = _; kernel_rfl)⟩)
      · have h := cond_ff hc h
        obtain hs := Option.some.inj h; subst hs
        refine T_exit fun a w hm => then_exit (then_exit (inBlock_exit (then_norm (hm.co (cs := [.keep [6]]) (by show _ = _; kernel_rfl)))))
    · skip
      refine fun a w hm => then_norm (((?_ : T Try.prog e 36 _ _ _) a w hm))
      refine T_region [] [2, 6] [] [(2, .vw (6, 0)), (6, .own 1 (v6.map (cI .i64)))] [] 2 (by kernel_rfl) (trivial) ?_
      obtain hs := Option.some.inj h; subst hs
      refine T_ret fun a w hm => T_return (fr' := [(2, .own 1 (v6.map (cI .i64)))]) [2] (by kernel_rfl) [.claim 2, .keep [2]] (by kernel_rfl) (by kernel_rfl) (by kernel_rfl) (by show _ = _; kernel_rfl) (by exact trivial) a w hm

theorem f10_ok {F : Nat} {a0 : List (List Int)} {a1 : List Int} {a2 : Int} {r : (List Int) × Int} (h : f10 F a0 a1 a2 = some r) : ACall Try.prog 10 [.d (.sl 1 (a0.map (cL 1 (cI .i64)))), .d (.sl 1 (a1.map (cI .i64))), .d (.v (.int .i64 a2))] [] (.tup [.own 1 (r.1.map (cI .i64)), .d (.v (.int .i64 r.2))]) [] := by
  rw [f10] at h
  refine ACall.intro (N := 87) Try.func10 rfl rfl rfl rfl rfl fun e => ?_
  refine T_region [] [0, 1, 2] [] [(0, .d (.sl 1 (a0.map (cL 1 (cI .i64))))), (1, .d (.sl 1 (a1.map (cI .i64)))), (2, .d (.v (.int .i64 a2)))] [] 2 (by kernel_rfl) (trivial) ?_
  refine T_seqk ?_
  obtain ⟨z5, hz1, h⟩ := lett_ok h
  refine T_region [(1, { rw := some (.d (.v (.int .i64 (a0.length : Int)))) }), (5, { rw := some (.d (.v (.int .i64 (a1.length : Int)))) }), (7, { rw := some (.d (.v (.bool z5))) })] [0, 1, 2, 22] [] [(0, .d (.sl 1 (a0.map (cL 1 (cI .i64))))), (1, .d (.sl 1 (a1.map (cI .i64)))), (2, .d (.v (.int .i64 a2))), (22, .d (.v (.bool z5)))] [(1, True ∧ AV.d (.v (.int .i64 ((a0.map (cL 1 (cI .i64))).length : Int))) = .d (.v (.int .i64 (a0.length : Int)))), (2, ((((decide ((a0.length : Int) > (64 : Int))) == false) && true) = true → True)), (0, ((((decide ((a0.length : Int) > (64 : Int))) == false) && true) = true → True ∧ AV.d (.v (.int .i64 ((a1.map (cI .i64)).length : Int))) = .d (.v (.int .i64 (a1.length : Int))))), (0, ((((decide ((a0.length : Int) > (64 : Int))) == false) && true) = true → True)), (0, (True) ∧ AV.d (.v (.bool (bif (decide ((a0.length : Int) > (64 : Int))) then true else (decide ((a1.length : Int) > (64 : Int)))))) = .d (.v (.bool z5)))] 0 (by kernel_rfl) (⟨len_ok (cL 1 (cI .i64)), (fun hg => trivial), (fun hg => len_ok (cI .i64)), (fun hg => trivial), ⟨trivial, (by subst hz1; rfl)⟩⟩) ?_
  refine T_cond z5 (by kernel_rfl) (fun hc => ?_) (fun hc => ?_)
  · have h := cond_tt hc h
    refine T_region [] [6, 7] [] [(6, .own 1 ([].map (cI .i64))), (7, .d (.v (.int .i64 (2 : Int))))] [] 2 (by kernel_rfl) (trivial) ?_
    obtain hs := Option.some.inj h; subst hs
    refine T_ret fun a w hm => then_ret (T_return (fr' := [(6, .own 1 ([].map (cI .i64))), (7, .d (.v (.int .i64 (2 : Int))))]) [6, 7] (by kernel_rfl) [.keep [6, 7]] (by kernel_rfl) (by kernel_rfl) (by kernel_rfl) (by show _ = _; kernel_rfl) (by exact trivial) a w hm)
  · have h := cond_ff hc h
    refine T_skip fun a w hm => then_norm (((?_ : T Try.prog e 87 _ _ _) a w hm))
    refine T_seqk ?_
    refine T_region [(1, { rw := some (.d (.v (.int .i64 (a0.length : Int)))) })] [0, 1, 2, 23, 24, 25] [] [(0, .d (.sl 1 (a0.map (cL 1 (cI .i64))))), (1, .d (.sl 1 (a1.map (cI .i64)))), (2, .d (.v (.int .i64 a2))), (23, .d (.sl 1 (a0.map (cL 1 (cI .i64))))), (24, .d (.v (.int .i64 (a0.length : Int)))), (25, .d (.v (.int .i64 (0 : Int))))] [(1, True ∧ AV.d (.v (.int .i64 ((a0.map (cL 1 (cI .i64))).length : Int))) = .d (.v (.int .i64 (a0.length : Int))))] 1 (by kernel_rfl) (len_ok (cL 1 (cI .i64))) ?_
    refine T_joinEt h (fun (p : Unit) => [(0, .d (.sl 1 (a0.map (cL 1 (cI .i64))))), (1, .d (.sl 1 (a1.map (cI .i64)))), (2, .d (.v (.int .i64 a2)))]) (fun s h hk1 => ?_) (fun s h => ?_)
    · refine T_co [.keep [0, 1, 2, 23, 24, 25]] ((fun (p : Int) => [(0, .d (.sl 1 (a0.map (cL 1 (cI .i64))))), (1, .d (.sl 1 (a1.map (cI .i64)))), (2, .d (.v (.int .i64 a2))), (23, .d (.sl 1 (a0.map (cL 1 (cI .i64))))), (24, .d (.v (.int .i64 (a0.length : Int)))), (25, .d (.v (.int .i64 p)))]) (0 : Int)) (by show _ = _; kernel_rfl) ?_
      refine T_block ?_
      refine T_loopF (ι := Int) (fun (p : Int) => [(0, .d (.sl 1 (a0.map (cL 1 (cI .i64))))), (1, .d (.sl 1 (a1.map (cI .i64)))), (2, .d (.v (.int .i64 a2))), (23, .d (.sl 1 (a0.map (cL 1 (cI .i64))))), (24, .d (.v (.int .i64 (a0.length : Int)))), (25, .d (.v (.int .i64 p)))]) (fun n p => f10_L0 F a0 n p = some s) (fun i hh => by simp [f10_L0] at hh) (fun n v1 h => ?_) F (0 : Int) h
      have h : f10_L0 F a0 (n + 1) v1 = some s := h
      rw [f10_L0] at h
      refine T_region [] [0, 1, 2, 23, 24, 25, 26] [] [(0, .d (.sl 1 (a0.map (cL 1 (cI .i64))))), (1, .d (.sl 1 (a1.map (cI .i64)))), (2, .d (.v (.int .i64 a2))), (23, .d (.sl 1 (a0.map (cL 1 (cI .i64))))), (24, .d (.v (.int .i64 (a0.length : Int)))), (25, .d (.v (.int .i64 v1))), (26, .d (.v (.bool (decide (v1 < (a0.length : Int))))))] [] 1 (by kernel_rfl) (trivial) ?_
      refine T_seqk ?_
      refine T_cond (decide (v1 < (a0.length : Int))) (by kernel_rfl) (fun hc => ?_) (fun hc => ?_)
      · have h := cond_tt hc h
        refine T_skip fun a w hm => then_norm (((?_ : T Try.prog e 87 _ _ _) a w hm))
        refine T_seqk ?_
        refine T_block ?_
        obtain ⟨hp1, h⟩ := chk_ok h
        refine T_region [(0, { cs := (cL 1 (cI .i64)) (a0.getD v1.toNat []) })] [0, 1, 2, 9, 23, 24, 25] [] [(0, .d (.sl 1 (a0.map (cL 1 (cI .i64))))), (1, .d (.sl 1 (a1.map (cI .i64)))), (2, .d (.v (.int .i64 a2))), (9, .d (.sl 1 ((a0.getD v1.toNat []).map (cI .i64)))), (23, .d (.sl 1 (a0.map (cL 1 (cI .i64))))), (24, .d (.v (.int .i64 (a0.length : Int)))), (25, .d (.v (.int .i64 v1)))] [(0, 0 ≤ v1 ∧ (a0.map (cL 1 (cI .i64)))[v1.toNat]? = some ((cL 1 (cI .i64)) (a0.getD v1.toNat [])))] 2 (by kernel_rfl) (idx_ok (d := []) (cL 1 (cI .i64)) hp1) ?_
        obtain ⟨z1, hz2, h⟩ := lett_ok h
        refine T_region [(1, { rw := some (.d (.v (.int .i64 ((a0.getD v1.toNat []).length : Int)))) }), (5, { rw := some (.d (.v (.int .i64 ((a0.getD v1.toNat []).length : Int)))) }), (8, { rw := some (.d (.v (.bool z1))) })] [0, 1, 2, 23, 24, 25, 37] [] [(0, .d (.sl 1 (a0.map (cL 1 (cI .i64))))), (1, .d (.sl 1 (a1.map (cI .i64)))), (2, .d (.v (.int .i64 a2))), (23, .d (.sl 1 (a0.map (cL 1 (cI .i64))))), (24, .d (.v (.int .i64 (a0.length : Int)))), (25, .d (.v (.int .i64 v1))), (37, .d (.v (.bool z1)))] [(1, True ∧ AV.d (.v (.int .i64 (((a0.getD v1.toNat []).map (cI .i64)).length : Int))) = .d (.v (.int .i64 ((a0.getD v1.toNat []).length : Int)))), (2, ((((decide (((a0.getD v1.toNat []).length : Int) > (64 : Int))) == false) && true) = true → True)), (0, ((((decide (((a0.getD v1.toNat []).length : Int) > (64 : Int))) == false) && true) = true → True ∧ AV.d (.v (.int .i64 (((a0.getD v1.toNat []).map (cI .i64)).length : Int))) = .d (.v (.int .i64 ((a0.getD v1.toNat []).length : Int))))), (0, ((((decide (((a0.getD v1.toNat []).length : Int) > (64 : Int))) == false) && true) = true → (2 : Int) ≠ 0)), (0, ((((decide (((a0.getD v1.toNat []).length : Int) > (64 : Int))) == false) && true) = true → True)), (0, (True) ∧ AV.d (.v (.bool (bif (decide (((a0.getD v1.toNat []).length : Int) > (64 : Int))) then true else ((((a0.getD v1.toNat []).length : Int).tmod (2 : Int)) == (1 : Int))))) = .d (.v (.bool z1)))] 0 (by kernel_rfl) (⟨len_ok (cI .i64), (fun hg => trivial), (fun hg => len_ok (cI .i64)), (fun hg => (show (2 : Int) ≠ 0 by decide)), (fun hg => trivial), ⟨trivial, (by subst hz2; rfl)⟩⟩) ?_
        refine T_cond z1 (by kernel_rfl) (fun hc => ?_) (fun hc => ?_)
        · have h := cond_tt hc h
          refine T_region [] [6, 7] [] [(6, .own 1 ([].map (cI .i64))), (7, .d (.v (.int .i64 (4 : Int))))] [] 2 (by kernel_rfl) (trivial) ?_
          obtain hs := Option.some.inj h; subst hs
          have h := callE_esc hk1
          obtain hs := Option.some.inj h; subst hs
          refine T_ret fun a w hm => inBlock_ret (then_ret (then_ret (inBlock_ret (then_ret (then_ret (T_return (fr' := [(6, .own 1 ([].map (cI .i64))), (7, .d (.v (.int .i64 (4 : Int))))]) [6, 7] (by kernel_rfl) [.keep [6, 7]] (by kernel_rfl) (by kernel_rfl) (by kernel_rfl) (by show _ = _; kernel_rfl) (by exact trivial) a w hm))))))
        · have h := cond_ff hc h
          refine T_skip fun a w hm => inBlock_norm (then_norm (((?_ : T Try.prog e 87 _ _ _) a w hm)))
          refine T_region_end [] [0, 1, 2, 23, 24, 25] [] [(0, .d (.sl 1 (a0.map (cL 1 (cI .i64))))), (1, .d (.sl 1 (a1.map (cI .i64)))), (2, .d (.v (.int .i64 a2))), (23, .d (.sl 1 (a0.map (cL 1 (cI .i64))))), (24, .d (.v (.int .i64 (a0.length : Int)))), (25, .d (.v (.int .i64 (IntKind.i64.wrap (v1 + (1 : Int))))))] [] 2 (by kernel_rfl) (trivial) fun a w hm => then_norm (⟨IntKind.i64.wrap (v1 + (1 : Int)), h, hm.co (cs := [.keep [0, 1, 2, 23, 24, 25]]) (by show _ = _; kernel_rfl)⟩)
      · have h := cond_ff hc h
        obtain hs := Option.some.inj h; subst hs
        refine T_exit fun a w hm => then_exit (then_exit (inBlock_exit (then_norm (⟨_, rfl, hm.co (cs := [.keep [0, 1, 2]]) (by show _ = _; kernel_rfl)⟩))))
    · skip
      refine fun a w hm => then_norm (((?_ : T Try.prog e 87 _ _ _) a w hm))
      refine T_seqk ?_
      refine T_region [] [0, 1, 2, 44] [] [(0, .d (.sl 1 (a0.map (cL 1 (cI .i64))))), (1, .d (.sl 1 (a1.map (cI .i64)))), (2, .d (.v (.int .i64 a2))), (44, .d (.v (.bool (bif (a2 != (0 : Int)) then (a2 != (1 : Int)) else false))))] [(3, ((((a2 != (0 : Int)) == true) && true) = true → True)), (0, ((((a2 != (0 : Int)) == true) && true) = true → True))] 1 (by kernel_rfl) (⟨(fun hg => trivial), (fun hg => trivial)⟩) ?_
      refine T_cond (bif (a2 != (0 : Int)) then (a2 != (1 : Int)) else false) (by kernel_rfl) (fun hc => ?_) (fun hc => ?_)
      · have h := cond_tt hc h
        refine T_region [] [6, 7] [] [(6, .own 1 ([].map (cI .i64))), (7, .d (.v (.int .i64 (14 : Int))))] [] 2 (by kernel_rfl) (trivial) ?_
        obtain hs := Option.some.inj h; subst hs
        refine T_ret fun a w hm => then_ret (T_return (fr' := [(6, .own 1 ([].map (cI .i64))), (7, .d (.v (.int .i64 (14 : Int))))]) [6, 7] (by kernel_rfl) [.keep [6, 7]] (by kernel_rfl) (by kernel_rfl) (by kernel_rfl) (by show _ = _; kernel_rfl) (by exact trivial) a w hm)
      · have h := cond_ff hc h
        refine T_skip fun a w hm => then_norm (((?_ : T Try.prog e 87 _ _ _) a w hm))
        refine T_region [] [0, 1, 2, 10, 11] [] [(0, .d (.sl 1 (a0.map (cL 1 (cI .i64))))), (1, .d (.sl 1 (a1.map (cI .i64)))), (2, .d (.v (.int .i64 a2))), (10, .own 1 ([].map (cI .i64))), (11, .own 1 ([].map (cI .i64)))] [] 2 (by kernel_rfl) (trivial) ?_
        refine T_seqk ?_
        refine T_region [(1, { rw := some (.d (.v (.int .i64 (a1.length : Int)))) })] [0, 2, 10, 11, 45, 46, 47] [] [(0, .d (.sl 1 (a0.map (cL 1 (cI .i64))))), (2, .d (.v (.int .i64 a2))), (10, .own 1 ([].map (cI .i64))), (11, .own 1 ([].map (cI .i64))), (45, .d (.sl 1 (a1.map (cI .i64)))), (46, .d (.v (.int .i64 (a1.length : Int)))), (47, .d (.v (.int .i64 (0 : Int))))] [(1, True ∧ AV.d (.v (.int .i64 ((a1.map (cI .i64)).length : Int))) = .d (.v (.int .i64 (a1.length : Int))))] 1 (by kernel_rfl) (len_ok (cI .i64)) ?_
        refine T_joinEt h (fun (p : (List Int) × (List Int)) => [(10, .own 1 (p.1.map (cI .i64))), (11, .own 1 (p.2.map (cI .i64)))]) (fun s h hk2 => ?_) (fun s h => ?_)
        · refine T_co [.keep [0, 2, 10, 11, 45, 46, 47]] ((fun (p : (List Int) × (List Int) × Int) => [(0, .d (.sl 1 (a0.map (cL 1 (cI .i64))))), (2, .d (.v (.int .i64 a2))), (10, .own 1 (p.1.map (cI .i64))), (11, .own 1 (p.2.1.map (cI .i64))), (45, .d (.sl 1 (a1.map (cI .i64)))), (46, .d (.v (.int .i64 (a1.length : Int)))), (47, .d (.v (.int .i64 p.2.2)))]) ([], [], (0 : Int))) (by show _ = _; kernel_rfl) ?_
          refine T_block ?_
          refine T_loopF (ι := (List Int) × (List Int) × Int) (fun (p : (List Int) × (List Int) × Int) => [(0, .d (.sl 1 (a0.map (cL 1 (cI .i64))))), (2, .d (.v (.int .i64 a2))), (10, .own 1 (p.1.map (cI .i64))), (11, .own 1 (p.2.1.map (cI .i64))), (45, .d (.sl 1 (a1.map (cI .i64)))), (46, .d (.v (.int .i64 (a1.length : Int)))), (47, .d (.v (.int .i64 p.2.2)))]) (fun n p => f10_L2 F a0 a1 a2 n p.1 p.2.1 p.2.2 = some s) (fun i hh => by simp [f10_L2] at hh) (fun n p h => ?_) F ([], [], (0 : Int)) h
          obtain ⟨v2, v3, v4⟩ := p
          have h : f10_L2 F a0 a1 a2 (n + 1) v2 v3 v4 = some s := h
          rw [f10_L2] at h
          refine T_region [] [0, 2, 10, 11, 45, 46, 47, 48] [] [(0, .d (.sl 1 (a0.map (cL 1 (cI .i64))))), (2, .d (.v (.int .i64 a2))), (10, .own 1 (v2.map (cI .i64))), (11, .own 1 (v3.map (cI .i64))), (45, .d (.sl 1 (a1.map (cI .i64)))), (46, .d (.v (.int .i64 (a1.length : Int)))), (47, .d (.v (.int .i64 v4))), (48, .d (.v (.bool (decide (v4 < (a1.length : Int))))))] [] 1 (by kernel_rfl) (trivial) ?_
          refine T_seqk ?_
          refine T_cond (decide (v4 < (a1.length : Int))) (by kernel_rfl) (fun hc => ?_) (fun hc => ?_)
          · have h := cond_tt hc h
            refine T_skip fun a w hm => then_norm (((?_ : T Try.prog e 87 _ _ _) a w hm))
            refine T_joinE h (fun (p : (List Int) × (List Int)) => [(0, .d (.sl 1 (a0.map (cL 1 (cI .i64))))), (2, .d (.v (.int .i64 a2))), (10, .own 1 (p.1.map (cI .i64))), (11, .own 1 (p.2.map (cI .i64))), (45, .d (.sl 1 (a1.map (cI .i64)))), (46, .d (.v (.int .i64 (a1.length : Int)))), (47, .d (.v (.int .i64 v4)))]) (fun s h hk3 => ?_) (fun s h => ?_)
            · refine T_block ?_
              obtain ⟨hp2, h⟩ := chk_ok h
              refine T_region [(0, { cs := (cI .i64) (a1.getD v4.toNat 0) })] [0, 2, 10, 11, 13, 45, 46, 47] [] [(0, .d (.sl 1 (a0.map (cL 1 (cI .i64))))), (2, .d (.v (.int .i64 a2))), (10, .own 1 (v2.map (cI .i64))), (11, .own 1 (v3.map (cI .i64))), (13, .d (.v (.int .i64 (a1.getD v4.toNat 0)))), (45, .d (.sl 1 (a1.map (cI .i64)))), (46, .d (.v (.int .i64 (a1.length : Int)))), (47, .d (.v (.int .i64 v4)))] [(0, 0 ≤ v4 ∧ (a1.map (cI .i64))[v4.toNat]? = some ((cI .i64) (a1.getD v4.toNat 0)))] 2 (by kernel_rfl) (idx_ok (d := 0) (cI .i64) hp2) ?_
              refine T_seqk ?_
              obtain ⟨z2, hz3, h⟩ := lett_ok h
              refine T_region [(5, { rw := some (.d (.v (.int .i64 (a0.length : Int)))) }), (7, { rw := some (.d (.v (.bool z2))) })] [0, 2, 10, 11, 13, 45, 46, 47, 58] [] [(0, .d (.sl 1 (a0.map (cL 1 (cI .i64))))), (2, .d (.v (.int .i64 a2))), (10, .own 1 (v2.map (cI .i64))), (11, .own 1 (v3.map (cI .i64))), (13, .d (.v (.int .i64 (a1.getD v4.toNat 0)))), (45, .d (.sl 1 (a1.map (cI .i64)))), (46, .d (.v (.int .i64 (a1.length : Int)))), (47, .d (.v (.int .i64 v4))), (58, .d (.v (.bool z2)))] [(3, ((((decide ((a1.getD v4.toNat 0) < (0 : Int))) == false) && true) = true → True)), (0, ((((decide ((a1.getD v4.toNat 0) < (0 : Int))) == false) && true) = true → True)), (0, ((((decide ((a1.getD v4.toNat 0) < (0 : Int))) == false) && true) = true → True ∧ AV.d (.v (.int .i64 ((a0.map (cL 1 (cI .i64))).length : Int))) = .d (.v (.int .i64 (a0.length : Int))))), (0, ((((decide ((a1.getD v4.toNat 0) < (0 : Int))) == false) && true) = true → True)), (0, (True) ∧ AV.d (.v (.bool (bif (decide ((a1.getD v4.toNat 0) < (0 : Int))) then true else (decide ((a1.getD v4.toNat 0) ≥ (a0.length : Int)))))) = .d (.v (.bool z2)))] 0 (by kernel_rfl) (⟨(fun hg => trivial), (fun hg => trivial), (fun hg => len_ok (cL 1 (cI .i64))), (fun hg => trivial), ⟨trivial, (by subst hz3; rfl)⟩⟩) ?_
              refine T_cond z2 (by kernel_rfl) (fun hc => ?_) (fun hc => ?_)
              · have h := cond_tt hc h
                refine T_region [] [6, 7] [] [(6, .own 1 ([].map (cI .i64))), (7, .d (.v (.int .i64 (3 : Int))))] [] 2 (by kernel_rfl) (trivial) ?_
                obtain hs := Option.some.inj h; subst hs
                have h := callE_esc hk3
                obtain hs := Option.some.inj h; subst hs
                have h := callE_esc hk2
                obtain hs := Option.some.inj h; subst hs
                refine T_ret fun a w hm => then_ret (inBlock_ret (then_ret (then_ret (inBlock_ret (then_ret (then_ret (T_return (fr' := [(6, .own 1 ([].map (cI .i64))), (7, .d (.v (.int .i64 (3 : Int))))]) [6, 7] (by kernel_rfl) [.keep [6, 7]] (by kernel_rfl) (by kernel_rfl) (by kernel_rfl) (by show _ = _; kernel_rfl) (by exact trivial) a w hm)))))))
              · have h := cond_ff hc h
                refine T_skip fun a w hm => then_norm (((?_ : T Try.prog e 87 _ _ _) a w hm))
                obtain ⟨hp3, h⟩ := chk_ok h
                refine T_region [(2, { cs := (cL 1 (cI .i64)) (a0.getD (a1.getD v4.toNat 0).toNat []) })] [0, 2, 10, 11, 14, 45, 46, 47] [] [(0, .d (.sl 1 (a0.map (cL 1 (cI .i64))))), (2, .d (.v (.int .i64 a2))), (10, .own 1 (v2.map (cI .i64))), (11, .own 1 (v3.map (cI .i64))), (14, .d (.sl 1 ((a0.getD (a1.getD v4.toNat 0).toNat []).map (cI .i64)))), (45, .d (.sl 1 (a1.map (cI .i64)))), (46, .d (.v (.int .i64 (a1.length : Int)))), (47, .d (.v (.int .i64 v4)))] [(2, 0 ≤ (a1.getD v4.toNat 0) ∧ (a0.map (cL 1 (cI .i64)))[(a1.getD v4.toNat 0).toNat]? = some ((cL 1 (cI .i64)) (a0.getD (a1.getD v4.toNat 0).toNat [])))] 2 (by kernel_rfl) (idx_ok (d := []) (cL 1 (cI .i64)) hp3) ?_
                refine T_seqk ?_
                refine T_region [] [0, 2, 10, 11, 14, 45, 46, 47, 64] [] [(0, .d (.sl 1 (a0.map (cL 1 (cI .i64))))), (2, .d (.v (.int .i64 a2))), (10, .own 1 (v2.map (cI .i64))), (11, .own 1 (v3.map (cI .i64))), (14, .d (.sl 1 ((a0.getD (a1.getD v4.toNat 0).toNat []).map (cI .i64)))), (45, .d (.sl 1 (a1.map (cI .i64)))), (46, .d (.v (.int .i64 (a1.length : Int)))), (47, .d (.v (.int .i64 v4))), (64, .d (.v (.bool (a2 == (0 : Int)))))] [] 2 (by kernel_rfl) (trivial) ?_
                refine T_cond (a2 == (0 : Int)) (by kernel_rfl) (fun hc => ?_) (fun hc => ?_)
                · have h := cond_tt hc h
                  obtain ⟨hp4, h⟩ := chk_ok h
                  refine T_region [(2, { es := some ((v2 ++ (a0.getD (a1.getD v4.toNat 0).toNat [])).map (cI .i64)) })] [0, 2, 10, 11, 45, 46, 47] [] [(0, .d (.sl 1 (a0.map (cL 1 (cI .i64))))), (2, .d (.v (.int .i64 a2))), (10, .own 1 ((v2 ++ (a0.getD (a1.getD v4.toNat 0).toNat [])).map (cI .i64))), (11, .own 1 (v3.map (cI .i64))), (45, .d (.sl 1 (a1.map (cI .i64)))), (46, .d (.v (.int .i64 (a1.length : Int)))), (47, .d (.v (.int .i64 v4)))] [(2, (v2.map (cI .i64)).length + ((a0.getD (a1.getD v4.toNat 0).toNat []).map (cI .i64)).length ≤ 4294967296 ∧ (v2.map (cI .i64)) ++ ((a0.getD (a1.getD v4.toNat 0).toNat []).map (cI .i64)) = ((v2 ++ (a0.getD (a1.getD v4.toNat 0).toNat [])).map (cI .i64)))] 1 (by kernel_rfl) (app_ok (cI .i64) hp4) ?_
                  obtain hs := Option.some.inj h; subst hs
                  refine T_exit fun a w hm => then_exit (inBlock_exit (then_norm (⟨_, rfl, hm.co (cs := [.keep [0, 2, 10, 11, 45, 46, 47]]) (by show _ = _; kernel_rfl)⟩)))
                · have h := cond_ff hc h
                  refine T_skip fun a w hm => then_norm (((?_ : T Try.prog e 87 _ _ _) a w hm))
                  obtain ⟨hp5, h⟩ := chk_ok h
                  obtain ⟨z3, hz4, h⟩ := lett_ok h
                  obtain ⟨hp6, h⟩ := chk_ok h
                  refine T_region [(3, { rw := some (.d (.v (.int .i64 ((a0.getD (a1.getD v4.toNat 0).toNat []).length : Int)))) }), (5, { rw := some (.d (.sl 1 (z3.map (cI .i64)))) }), (6, { es := some ((v2 ++ z3).map (cI .i64)) })] [0, 2, 10, 11, 14, 45, 46, 47] [] [(0, .d (.sl 1 (a0.map (cL 1 (cI .i64))))), (2, .d (.v (.int .i64 a2))), (10, .own 1 ((v2 ++ z3).map (cI .i64))), (11, .own 1 (v3.map (cI .i64))), (14, .d (.sl 1 ((a0.getD (a1.getD v4.toNat 0).toNat []).map (cI .i64)))), (45, .d (.sl 1 (a1.map (cI .i64)))), (46, .d (.v (.int .i64 (a1.length : Int)))), (47, .d (.v (.int .i64 v4)))] [(3, True ∧ AV.d (.v (.int .i64 (((a0.getD (a1.getD v4.toNat 0).toNat []).map (cI .i64)).length : Int))) = .d (.v (.int .i64 ((a0.getD (a1.getD v4.toNat 0).toNat []).length : Int)))), (0, (2 : Int) ≠ 0), (0, (0 ≤ (0 : Int) ∧ (0 : Int) ≤ (IntKind.i64.wrap (((a0.getD (a1.getD v4.toNat 0).toNat []).length : Int).tdiv (2 : Int))) ∧ (IntKind.i64.wrap (((a0.getD (a1.getD v4.toNat 0).toNat []).length : Int).tdiv (2 : Int))) ≤ (((a0.getD (a1.getD v4.toNat 0).toNat []).map (cI .i64)).length : Int)) ∧ AV.d (.sl 1 ((((a0.getD (a1.getD v4.toNat 0).toNat []).map (cI .i64)).drop (0 : Int).toNat).take ((IntKind.i64.wrap (((a0.getD (a1.getD v4.toNat 0).toNat []).length : Int).tdiv (2 : Int))).toNat - (0 : Int).toNat))) = .d (.sl 1 (z3.map (cI .i64)))), (0, (v2.map (cI .i64)).length + (z3.map (cI .i64)).length ≤ 4294967296 ∧ (v2.map (cI .i64)) ++ (z3.map (cI .i64)) = ((v2 ++ z3).map (cI .i64)))] 1 (by kernel_rfl) (⟨len_ok (cI .i64), (show (2 : Int) ≠ 0 by decide), and_trans (cutH (cI .i64) hp5) (by subst hz4; rfl), app_ok (cI .i64) hp6⟩) ?_
                  obtain ⟨hp7, h⟩ := chk_ok h
                  obtain ⟨z4, hz5, h⟩ := lett_ok h
                  obtain ⟨y1, hy1, h⟩ := call_ok h
                  obtain hs := Option.some.inj h; subst hs
                  refine T_region_end [(2, { rw := some (.d (.v (.int .i64 ((a0.getD (a1.getD v4.toNat 0).toNat []).length : Int)))) }), (4, { rw := some (.d (.sl 1 (z4.map (cI .i64)))) }), (6, { frz := [(11, 0)], es := some (([z4, v3]).map (cL 1 (cI .i64))) }), (7, { frz := [(81, 0)], res := .own 1 (y1.map (cI .i64)) })] [0, 2, 10, 11, 45, 46, 47] [] [(0, .d (.sl 1 (a0.map (cL 1 (cI .i64))))), (2, .d (.v (.int .i64 a2))), (10, .own 1 ((v2 ++ z3).map (cI .i64))), (11, .own 1 (y1.map (cI .i64))), (45, .d (.sl 1 (a1.map (cI .i64)))), (46, .d (.v (.int .i64 (a1.length : Int)))), (47, .d (.v (.int .i64 v4)))] [(2, True ∧ AV.d (.v (.int .i64 (((a0.getD (a1.getD v4.toNat 0).toNat []).map (cI .i64)).length : Int))) = .d (.v (.int .i64 ((a0.getD (a1.getD v4.toNat 0).toNat []).length : Int)))), (0, (2 : Int) ≠ 0), (0, (0 ≤ (IntKind.i64.wrap (((a0.getD (a1.getD v4.toNat 0).toNat []).length : Int).tdiv (2 : Int))) ∧ (IntKind.i64.wrap (((a0.getD (a1.getD v4.toNat 0).toNat []).length : Int).tdiv (2 : Int))) ≤ (((a0.getD (a1.getD v4.toNat 0).toNat []).map (cI .i64)).length : Int) ∧ (((a0.getD (a1.getD v4.toNat 0).toNat []).map (cI .i64)).length : Int) ≤ (((a0.getD (a1.getD v4.toNat 0).toNat []).map (cI .i64)).length : Int)) ∧ AV.d (.sl 1 ((((a0.getD (a1.getD v4.toNat 0).toNat []).map (cI .i64)).drop (IntKind.i64.wrap (((a0.getD (a1.getD v4.toNat 0).toNat []).length : Int).tdiv (2 : Int))).toNat).take ((((a0.getD (a1.getD v4.toNat 0).toNat []).map (cI .i64)).length : Int).toNat - (IntKind.i64.wrap (((a0.getD (a1.getD v4.toNat 0).toNat []).length : Int).tdiv (2 : Int))).toNat))) = .d (.sl 1 (z4.map (cI .i64)))), (1, (([z4, v3]).map (cL 1 (cI .i64))) = (([z4, v3]).map (cL 1 (cI .i64)))), (0, ACall Try.prog 18 [.d (.sl 1 (([z4, v3]).map (cL 1 (cI .i64))))] [] (.own 1 (y1.map (cI .i64))) [])] 1 (by kernel_rfl) (⟨len_ok (cI .i64), (show (2 : Int) ≠ 0 by decide), and_trans (cutL (cI .i64) hp7) (by subst hz5; rfl), rfl, f18_ok hy1⟩) fun a w hm => inBlock_norm (then_norm (⟨_, rfl, hm.co (cs := [.keep [0, 2, 10, 11, 45, 46, 47]]) (by show _ = _; kernel_rfl)⟩))
            · obtain ⟨v5, v6⟩ := s
              try dsimp only at h
              refine T_region_end [] [0, 2, 10, 11, 45, 46, 47] [] [(0, .d (.sl 1 (a0.map (cL 1 (cI .i64))))), (2, .d (.v (.int .i64 a2))), (10, .own 1 (v5.map (cI .i64))), (11, .own 1 (v6.map (cI .i64))), (45, .d (.sl 1 (a1.map (cI .i64)))), (46, .d (.v (.int .i64 (a1.length : Int)))), (47, .d (.v (.int .i64 (IntKind.i64.wrap (v4 + (1 : Int))))))] [] 2 (by kernel_rfl) (trivial) fun a w hm => then_norm (⟨(v5, v6, IntKind.i64.wrap (v4 + (1 : Int))), h, hm.co (cs := [.keep [0, 2, 10, 11, 45, 46, 47]]) (by show _ = _; kernel_rfl)⟩)
          · have h := cond_ff hc h
            obtain hs := Option.some.inj h; subst hs
            refine T_exit fun a w hm => then_exit (then_exit (inBlock_exit (then_norm (⟨_, rfl, hm.co (cs := [.keep [10, 11]]) (by show _ = _; kernel_rfl)⟩))))
        · obtain ⟨v7, v8⟩ := s
          try dsimp only at h
          refine fun a w hm => then_norm (((?_ : T Try.prog e 87 _ _ _) a w hm))
          obtain ⟨hp8, h⟩ := chk_ok h
          refine T_region [(2, { es := some ((v7 ++ v8).map (cI .i64)) })] [6, 7] [] [(6, .own 1 ((v7 ++ v8).map (cI .i64))), (7, .d (.v (.int .i64 (0 : Int))))] [(2, (v7.map (cI .i64)).length + (v8.map (cI .i64)).length ≤ 4294967296 ∧ (v7.map (cI .i64)) ++ (v8.map (cI .i64)) = ((v7 ++ v8).map (cI .i64)))] 2 (by kernel_rfl) (app_ok (cI .i64) hp8) ?_
          obtain hs := Option.some.inj h; subst hs
          refine T_ret fun a w hm => T_return (fr' := [(6, .own 1 ((v7 ++ v8).map (cI .i64))), (7, .d (.v (.int .i64 (0 : Int))))]) [6, 7] (by kernel_rfl) [.keep [6, 7]] (by kernel_rfl) (by kernel_rfl) (by kernel_rfl) (by show _ = _; kernel_rfl) (by exact trivial) a w hm

theorem f9_ok {F : Nat} {a0 : List (List Int)} {a1 : List Int} {a2 : Bool} {r : (List Int)} (h : f9 F a0 a1 a2 = some r) : ACall Try.prog 9 [.d (.sl 1 (a0.map (cL 1 (cI .i64)))), .d (.sl 1 (a1.map (cI .i64))), .d (.v (.bool a2))] [] (.own 1 (r.map (cI .i64))) [] := by
  rw [f9] at h
  refine ACall.intro (N := 59) Try.func9 rfl rfl rfl rfl rfl fun e => ?_
  refine T_region [] [0, 1, 2] [] [(0, .d (.sl 1 (a0.map (cL 1 (cI .i64))))), (1, .d (.sl 1 (a1.map (cI .i64)))), (2, .d (.v (.bool a2)))] [] 1 (by kernel_rfl) (trivial) ?_
  refine T_region [] [0, 1, 2, 7] [] [(0, .d (.sl 1 (a0.map (cL 1 (cI .i64))))), (1, .d (.sl 1 (a1.map (cI .i64)))), (2, .d (.v (.bool a2))), (7, .own 1 ([].map (cI .i64)))] [] 1 (by kernel_rfl) (trivial) ?_
  refine T_seqk ?_
  refine T_region [(1, { rw := some (.d (.v (.int .i64 (a1.length : Int)))) })] [0, 1, 2, 7, 13, 14, 15] [] [(0, .d (.sl 1 (a0.map (cL 1 (cI .i64))))), (1, .d (.sl 1 (a1.map (cI .i64)))), (2, .d (.v (.bool a2))), (7, .own 1 ([].map (cI .i64))), (13, .d (.sl 1 (a1.map (cI .i64)))), (14, .d (.v (.int .i64 (a1.length : Int)))), (15, .d (.v (.int .i64 (0 : Int))))] [(1, True ∧ AV.d (.v (.int .i64 ((a1.map (cI .i64)).length : Int))) = .d (.v (.int .i64 (a1.length : Int))))] 1 (by kernel_rfl) (len_ok (cI .i64)) ?_
  refine T_joinct h (fun (p : (List Int)) => [(0, .d (.sl 1 (a0.map (cL 1 (cI .i64))))), (1, .d (.sl 1 (a1.map (cI .i64)))), (2, .d (.v (.bool a2))), (7, .own 1 (p.map (cI .i64)))]) (fun s h => ?_) (fun v7 h => ?_)
  · refine T_co [.keep [0, 1, 2, 7, 13, 14, 15]] ((fun (p : (List Int) × Int) => [(0, .d (.sl 1 (a0.map (cL 1 (cI .i64))))), (1, .d (.sl 1 (a1.map (cI .i64)))), (2, .d (.v (.bool a2))), (7, .own 1 (p.1.map (cI .i64))), (13, .d (.sl 1 (a1.map (cI .i64)))), (14, .d (.v (.int .i64 (a1.length : Int)))), (15, .d (.v (.int .i64 p.2)))]) ([], (0 : Int))) (by show _ = _; kernel_rfl) ?_
    refine T_block ?_
    refine T_loopF (ι := (List Int) × Int) (fun (p : (List Int) × Int) => [(0, .d (.sl 1 (a0.map (cL 1 (cI .i64))))), (1, .d (.sl 1 (a1.map (cI .i64)))), (2, .d (.v (.bool a2))), (7, .own 1 (p.1.map (cI .i64))), (13, .d (.sl 1 (a1.map (cI .i64)))), (14, .d (.v (.int .i64 (a1.length : Int)))), (15, .d (.v (.int .i64 p.2)))]) (fun n p => f9_L0 F a0 a1 a2 n p.1 p.2 = some s) (fun i hh => by simp [f9_L0] at hh) (fun n p h => ?_) F ([], (0 : Int)) h
    obtain ⟨v1, v2⟩ := p
    have h : f9_L0 F a0 a1 a2 (n + 1) v1 v2 = some s := h
    rw [f9_L0] at h
    refine T_region [] [0, 1, 2, 7, 13, 14, 15, 16] [] [(0, .d (.sl 1 (a0.map (cL 1 (cI .i64))))), (1, .d (.sl 1 (a1.map (cI .i64)))), (2, .d (.v (.bool a2))), (7, .own 1 (v1.map (cI .i64))), (13, .d (.sl 1 (a1.map (cI .i64)))), (14, .d (.v (.int .i64 (a1.length : Int)))), (15, .d (.v (.int .i64 v2))), (16, .d (.v (.bool (decide (v2 < (a1.length : Int))))))] [] 1 (by kernel_rfl) (trivial) ?_
    refine T_seqk ?_
    refine T_cond (decide (v2 < (a1.length : Int))) (by kernel_rfl) (fun hc => ?_) (fun hc => ?_)
    · have h := cond_tt hc h
      refine T_skip fun a w hm => then_norm (((?_ : T Try.prog e 59 _ _ _) a w hm))
      refine T_seqk ?_
      refine T_block ?_
      obtain ⟨hp1, h⟩ := chk_ok h
      refine T_region [(0, { cs := (cI .i64) (a1.getD v2.toNat 0) })] [0, 1, 2, 7, 9, 13, 14, 15] [] [(0, .d (.sl 1 (a0.map (cL 1 (cI .i64))))), (1, .d (.sl 1 (a1.map (cI .i64)))), (2, .d (.v (.bool a2))), (7, .own 1 (v1.map (cI .i64))), (9, .d (.v (.int .i64 (a1.getD v2.toNat 0)))), (13, .d (.sl 1 (a1.map (cI .i64)))), (14, .d (.v (.int .i64 (a1.length : Int)))), (15, .d (.v (.int .i64 v2)))] [(0, 0 ≤ v2 ∧ (a1.map (cI .i64))[v2.toNat]? = some ((cI .i64) (a1.getD v2.toNat 0)))] 2 (by kernel_rfl) (idx_ok (d := 0) (cI .i64) hp1) ?_
      obtain ⟨hp2, h⟩ := chk_ok h
      refine T_region [(2, { cs := (cL 1 (cI .i64)) (a0.getD (a1.getD v2.toNat 0).toNat []) })] [0, 1, 2, 7, 10, 13, 14, 15] [] [(0, .d (.sl 1 (a0.map (cL 1 (cI .i64))))), (1, .d (.sl 1 (a1.map (cI .i64)))), (2, .d (.v (.bool a2))), (7, .own 1 (v1.map (cI .i64))), (10, .d (.sl 1 ((a0.getD (a1.getD v2.toNat 0).toNat []).map (cI .i64)))), (13, .d (.sl 1 (a1.map (cI .i64)))), (14, .d (.v (.int .i64 (a1.length : Int)))), (15, .d (.v (.int .i64 v2)))] [(2, 0 ≤ (a1.getD v2.toNat 0) ∧ (a0.map (cL 1 (cI .i64)))[(a1.getD v2.toNat 0).toNat]? = some ((cL 1 (cI .i64)) (a0.getD (a1.getD v2.toNat 0).toNat [])))] 2 (by kernel_rfl) (idx_ok (d := []) (cL 1 (cI .i64)) hp2) ?_
      refine T_joinc h (fun (p : (List Int)) => [(0, .d (.sl 1 (a0.map (cL 1 (cI .i64))))), (1, .d (.sl 1 (a1.map (cI .i64)))), (2, .d (.v (.bool a2))), (7, .own 1 (v1.map (cI .i64))), (10, .d (.sl 1 (p.map (cI .i64)))), (13, .d (.sl 1 (a1.map (cI .i64)))), (14, .d (.v (.int .i64 (a1.length : Int)))), (15, .d (.v (.int .i64 v2)))]) (fun s h => ?_) (fun v3 h => ?_)
      · refine T_region [] [0, 1, 2, 7, 10, 13, 14, 15, 23] [] [(0, .d (.sl 1 (a0.map (cL 1 (cI .i64))))), (1, .d (.sl 1 (a1.map (cI .i64)))), (2, .d (.v (.bool a2))), (7, .own 1 (v1.map (cI .i64))), (10, .d (.sl 1 ((a0.getD (a1.getD v2.toNat 0).toNat []).map (cI .i64)))), (13, .d (.sl 1 (a1.map (cI .i64)))), (14, .d (.v (.int .i64 (a1.length : Int)))), (15, .d (.v (.int .i64 v2))), (23, .d (.v (.bool a2)))] [] 1 (by kernel_rfl) (trivial) ?_
        refine T_cond a2 (by kernel_rfl) (fun hc => ?_) (fun hc => ?_)
        · have h := cond_tt hc h
          obtain ⟨hp3, h⟩ := chk_ok h
          obtain ⟨z1, hz1, h⟩ := lett_ok h
          obtain hs := Option.some.inj h; subst hs
          refine T_region_end [(2, { rw := some (.d (.v (.int .i64 ((a0.getD (a1.getD v2.toNat 0).toNat []).length : Int)))) }), (4, { rw := some (.d (.sl 1 (z1.map (cI .i64)))) })] [0, 1, 2, 7, 10, 13, 14, 15] [] [(0, .d (.sl 1 (a0.map (cL 1 (cI .i64))))), (1, .d (.sl 1 (a1.map (cI .i64)))), (2, .d (.v (.bool a2))), (7, .own 1 (v1.map (cI .i64))), (10, .d (.sl 1 (z1.map (cI .i64)))), (13, .d (.sl 1 (a1.map (cI .i64)))), (14, .d (.v (.int .i64 (a1.length : Int)))), (15, .d (.v (.int .i64 v2)))] [(2, True ∧ AV.d (.v (.int .i64 (((a0.getD (a1.getD v2.toNat 0).toNat []).map (cI .i64)).length : Int))) = .d (.v (.int .i64 ((a0.getD (a1.getD v2.toNat 0).toNat []).length : Int)))), (0, (2 : Int) ≠ 0), (0, (0 ≤ (0 : Int) ∧ (0 : Int) ≤ (IntKind.i64.wrap (((a0.getD (a1.getD v2.toNat 0).toNat []).length : Int).tdiv (2 : Int))) ∧ (IntKind.i64.wrap (((a0.getD (a1.getD v2.toNat 0).toNat []).length : Int).tdiv (2 : Int))) ≤ (((a0.getD (a1.getD v2.toNat 0).toNat []).map (cI .i64)).length : Int)) ∧ AV.d (.sl 1 ((((a0.getD (a1.getD v2.toNat 0).toNat []).map (cI .i64)).drop (0 : Int).toNat).take ((IntKind.i64.wrap (((a0.getD (a1.getD v2.toNat 0).toNat []).length : Int).tdiv (2 : Int))).toNat - (0 : Int).toNat))) = .d (.sl 1 (z1.map (cI .i64))))] 1 (by kernel_rfl) (⟨len_ok (cI .i64), (show (2 : Int) ≠ 0 by decide), and_trans (cutH (cI .i64) hp3) (by subst hz1; rfl)⟩) fun a w hm => then_norm (hm.co (cs := [.keep [0, 1, 2, 7, 10, 13, 14, 15]]) (by show _ = _; kernel_rfl))
        · have h := cond_ff hc h
          obtain hs := Option.some.inj h; subst hs
          refine T_skip fun a w hm => then_norm (hm.co (cs := [.keep [0, 1, 2, 7, 10, 13, 14, 15]]) (by show _ = _; kernel_rfl))
      · skip
        obtain ⟨hp4, h⟩ := chk_ok h
        refine T_region_end [(2, { es := some ((v1 ++ v3).map (cI .i64)) })] [0, 1, 2, 7, 13, 14, 15] [] [(0, .d (.sl 1 (a0.map (cL 1 (cI .i64))))), (1, .d (.sl 1 (a1.map (cI .i64)))), (2, .d (.v (.bool a2))), (7, .own 1 ((v1 ++ v3).map (cI .i64))), (13, .d (.sl 1 (a1.map (cI .i64)))), (14, .d (.v (.int .i64 (a1.length : Int)))), (15, .d (.v (.int .i64 v2)))] [(2, (v1.map (cI .i64)).length + (v3.map (cI .i64)).length ≤ 4294967296 ∧ (v1.map (cI .i64)) ++ (v3.map (cI .i64)) = ((v1 ++ v3).map (cI .i64)))] 1 (by kernel_rfl) (app_ok (cI .i64) hp4) fun a w hm => inBlock_norm (then_norm (((?_ : T Try.prog e 59 _ _ _) a w hm)))
        refine T_region_end [] [0, 1, 2, 7, 13, 14, 15] [] [(0, .d (.sl 1 (a0.map (cL 1 (cI .i64))))), (1, .d (.sl 1 (a1.map (cI .i64)))), (2, .d (.v (.bool a2))), (7, .own 1 ((v1 ++ v3).map (cI .i64))), (13, .d (.sl 1 (a1.map (cI .i64)))), (14, .d (.v (.int .i64 (a1.length : Int)))), (15, .d (.v (.int .i64 (IntKind.i64.wrap (v2 + (1 : Int))))))] [] 2 (by kernel_rfl) (trivial) fun a w hm => then_norm (⟨((v1 ++ v3), IntKind.i64.wrap (v2 + (1 : Int))), h, hm.co (cs := [.keep [0, 1, 2, 7, 13, 14, 15]]) (by show _ = _; kernel_rfl)⟩)
    · have h := cond_ff hc h
      obtain hs := Option.some.inj h; subst hs
      refine T_exit fun a w hm => then_exit (then_exit (inBlock_exit (then_norm (hm.co (cs := [.keep [0, 1, 2, 7]]) (by show _ = _; kernel_rfl)))))
  · skip
    refine fun a w hm => then_norm (((?_ : T Try.prog e 59 _ _ _) a w hm))
    refine T_seqk ?_
    refine T_region [(1, { rw := some (.d (.v (.int .i64 (a1.length : Int)))) })] [0, 1, 2, 7, 34, 35] [] [(0, .d (.sl 1 (a0.map (cL 1 (cI .i64))))), (1, .d (.sl 1 (a1.map (cI .i64)))), (2, .d (.v (.bool a2))), (7, .own 1 (v7.map (cI .i64))), (34, .d (.v (.int .i64 (a1.length : Int)))), (35, .d (.v (.int .i64 (0 : Int))))] [(1, True ∧ AV.d (.v (.int .i64 ((a1.map (cI .i64)).length : Int))) = .d (.v (.int .i64 (a1.length : Int))))] 1 (by kernel_rfl) (len_ok (cI .i64)) ?_
    refine T_joinct h (fun (p : (List Int)) => [(7, .own 1 (p.map (cI .i64)))]) (fun s h => ?_) (fun v8 h => ?_)
    · refine T_co [.keep [0, 1, 2, 7, 34, 35]] ((fun (p : (List Int) × Int) => [(0, .d (.sl 1 (a0.map (cL 1 (cI .i64))))), (1, .d (.sl 1 (a1.map (cI .i64)))), (2, .d (.v (.bool a2))), (7, .own 1 (p.1.map (cI .i64))), (34, .d (.v (.int .i64 (a1.length : Int)))), (35, .d (.v (.int .i64 p.2)))]) (v7, (0 : Int))) (by show _ = _; kernel_rfl) ?_
      refine T_block ?_
      refine T_loopF (ι := (List Int) × Int) (fun (p : (List Int) × Int) => [(0, .d (.sl 1 (a0.map (cL 1 (cI .i64))))), (1, .d (.sl 1 (a1.map (cI .i64)))), (2, .d (.v (.bool a2))), (7, .own 1 (p.1.map (cI .i64))), (34, .d (.v (.int .i64 (a1.length : Int)))), (35, .d (.v (.int .i64 p.2)))]) (fun n p => f9_L2 F a0 a1 a2 n p.1 p.2 = some s) (fun i hh => by simp [f9_L2] at hh) (fun n p h => ?_) F (v7, (0 : Int)) h
      obtain ⟨v4, v5⟩ := p
      have h : f9_L2 F a0 a1 a2 (n + 1) v4 v5 = some s := h
      rw [f9_L2] at h
      refine T_region [] [0, 1, 2, 7, 34, 35, 36] [] [(0, .d (.sl 1 (a0.map (cL 1 (cI .i64))))), (1, .d (.sl 1 (a1.map (cI .i64)))), (2, .d (.v (.bool a2))), (7, .own 1 (v4.map (cI .i64))), (34, .d (.v (.int .i64 (a1.length : Int)))), (35, .d (.v (.int .i64 v5))), (36, .d (.v (.bool (decide (v5 < (a1.length : Int))))))] [] 1 (by kernel_rfl) (trivial) ?_
      refine T_seqk ?_
      refine T_cond (decide (v5 < (a1.length : Int))) (by kernel_rfl) (fun hc => ?_) (fun hc => ?_)
      · have h := cond_tt hc h
        refine T_skip fun a w hm => then_norm (((?_ : T Try.prog e 59 _ _ _) a w hm))
        refine T_joinc h (fun (p : (List Int)) => [(0, .d (.sl 1 (a0.map (cL 1 (cI .i64))))), (1, .d (.sl 1 (a1.map (cI .i64)))), (2, .d (.v (.bool a2))), (7, .own 1 (p.map (cI .i64))), (34, .d (.v (.int .i64 (a1.length : Int)))), (35, .d (.v (.int .i64 v5)))]) (fun s h => ?_) (fun v6 h => ?_)
        · refine T_block ?_
          refine T_region [] [0, 1, 2, 7, 11, 34, 35] [] [(0, .d (.sl 1 (a0.map (cL 1 (cI .i64))))), (1, .d (.sl 1 (a1.map (cI .i64)))), (2, .d (.v (.bool a2))), (7, .own 1 (v4.map (cI .i64))), (11, .d (.v (.int .i64 v5))), (34, .d (.v (.int .i64 (a1.length : Int)))), (35, .d (.v (.int .i64 v5)))] [] 2 (by kernel_rfl) (trivial) ?_
          refine T_region [] [0, 1, 2, 7, 11, 34, 35, 38] [] [(0, .d (.sl 1 (a0.map (cL 1 (cI .i64))))), (1, .d (.sl 1 (a1.map (cI .i64)))), (2, .d (.v (.bool a2))), (7, .own 1 (v4.map (cI .i64))), (11, .d (.v (.int .i64 v5))), (34, .d (.v (.int .i64 (a1.length : Int)))), (35, .d (.v (.int .i64 v5))), (38, .d (.v (.bool a2)))] [] 1 (by kernel_rfl) (trivial) ?_
          refine T_cond a2 (by kernel_rfl) (fun hc => ?_) (fun hc => ?_)
          · have h := cond_tt hc h
            obtain ⟨hp5, h⟩ := chk_ok h
            obtain ⟨hp6, h⟩ := chk_ok h
            obtain ⟨z2, hz2, h⟩ := lett_ok h
            refine T_region [(3, { rw := some (.d (.v (.int .i64 (a1.length : Int)))) }), (7, { cs := (cI .i64) (a1.getD (IntKind.i64.wrap ((IntKind.i64.wrap ((a1.length : Int) - (1 : Int))) - v5)).toNat 0) }), (9, { cs := (cL 1 (cI .i64)) (a0.getD (a1.getD (IntKind.i64.wrap ((IntKind.i64.wrap ((a1.length : Int) - (1 : Int))) - v5)).toNat 0).toNat []) }), (10, { rw := some (.d (.sl 1 (z2.map (cI .i64)))) })] [0, 1, 2, 7, 12, 34, 35] [] [(0, .d (.sl 1 (a0.map (cL 1 (cI .i64))))), (1, .d (.sl 1 (a1.map (cI .i64)))), (2, .d (.v (.bool a2))), (7, .own 1 (v4.map (cI .i64))), (12, .d (.sl 1 (z2.map (cI .i64)))), (34, .d (.v (.int .i64 (a1.length : Int)))), (35, .d (.v (.int .i64 v5)))] [(3, True ∧ AV.d (.v (.int .i64 ((a1.map (cI .i64)).length : Int))) = .d (.v (.int .i64 (a1.length : Int)))), (3, 0 ≤ (IntKind.i64.wrap ((IntKind.i64.wrap ((a1.length : Int) - (1 : Int))) - v5)) ∧ (a1.map (cI .i64))[(IntKind.i64.wrap ((IntKind.i64.wrap ((a1.length : Int) - (1 : Int))) - v5)).toNat]? = some ((cI .i64) (a1.getD (IntKind.i64.wrap ((IntKind.i64.wrap ((a1.length : Int) - (1 : Int))) - v5)).toNat 0))), (1, 0 ≤ (a1.getD (IntKind.i64.wrap ((IntKind.i64.wrap ((a1.length : Int) - (1 : Int))) - v5)).toNat 0) ∧ (a0.map (cL 1 (cI .i64)))[(a1.getD (IntKind.i64.wrap ((IntKind.i64.wrap ((a1.length : Int) - (1 : Int))) - v5)).toNat 0).toNat]? = some ((cL 1 (cI .i64)) (a0.getD (a1.getD (IntKind.i64.wrap ((IntKind.i64.wrap ((a1.length : Int) - (1 : Int))) - v5)).toNat 0).toNat []))), (0, (True) ∧ AV.d (.sl 1 ((a0.getD (a1.getD (IntKind.i64.wrap ((IntKind.i64.wrap ((a1.length : Int) - (1 : Int))) - v5)).toNat 0).toNat []).map (cI .i64))) = .d (.sl 1 (z2.map (cI .i64))))] 1 (by kernel_rfl) (⟨len_ok (cI .i64), idx_ok (d := 0) (cI .i64) hp5, idx_ok (d := []) (cL 1 (cI .i64)) hp6, ⟨trivial, (by subst hz2; rfl)⟩⟩) ?_
            obtain ⟨hp7, h⟩ := chk_ok h
            obtain ⟨z3, hz3, h⟩ := lett_ok h
            obtain ⟨hp8, h⟩ := chk_ok h
            obtain hs := Option.some.inj h; subst hs
            refine T_region_end [(3, { rw := some (.d (.v (.int .i64 (z2.length : Int)))) }), (5, { rw := some (.d (.sl 1 (z3.map (cI .i64)))) }), (6, { es := some ((v4 ++ z3).map (cI .i64)) })] [0, 1, 2, 7, 34, 35] [] [(0, .d (.sl 1 (a0.map (cL 1 (cI .i64))))), (1, .d (.sl 1 (a1.map (cI .i64)))), (2, .d (.v (.bool a2))), (7, .own 1 ((v4 ++ z3).map (cI .i64))), (34, .d (.v (.int .i64 (a1.length : Int)))), (35, .d (.v (.int .i64 v5)))] [(3, True ∧ AV.d (.v (.int .i64 ((z2.map (cI .i64)).length : Int))) = .d (.v (.int .i64 (z2.length : Int)))), (0, (2 : Int) ≠ 0), (0, (0 ≤ (IntKind.i64.wrap ((z2.length : Int).tdiv (2 : Int))) ∧ (IntKind.i64.wrap ((z2.length : Int).tdiv (2 : Int))) ≤ ((z2.map (cI .i64)).length : Int) ∧ ((z2.map (cI .i64)).length : Int) ≤ ((z2.map (cI .i64)).length : Int)) ∧ AV.d (.sl 1 (((z2.map (cI .i64)).drop (IntKind.i64.wrap ((z2.length : Int).tdiv (2 : Int))).toNat).take (((z2.map (cI .i64)).length : Int).toNat - (IntKind.i64.wrap ((z2.length : Int).tdiv (2 : Int))).toNat))) = .d (.sl 1 (z3.map (cI .i64)))), (0, (v4.map (cI .i64)).length + (z3.map (cI .i64)).length ≤ 4294967296 ∧ (v4.map (cI .i64)) ++ (z3.map (cI .i64)) = ((v4 ++ z3).map (cI .i64)))] 1 (by kernel_rfl) (⟨len_ok (cI .i64), (show (2 : Int) ≠ 0 by decide), and_trans (cutL (cI .i64) hp7) (by subst hz3; rfl), app_ok (cI .i64) hp8⟩) fun a w hm => inBlock_norm (then_norm (hm.co (cs := [.keep [0, 1, 2, 7, 34, 35]]) (by show _ = _; kernel_rfl)))
          · have h := cond_ff hc h
            obtain hs := Option.some.inj h; subst hs
            refine T_skip fun a w hm => inBlock_norm (then_norm (hm.co (cs := [.keep [0, 1, 2, 7, 34, 35]]) (by show _ = _; kernel_rfl)))
        · skip
          refine T_region_end [] [0, 1, 2, 7, 34, 35] [] [(0, .d (.sl 1 (a0.map (cL 1 (cI .i64))))), (1, .d (.sl 1 (a1.map (cI .i64)))), (2, .d (.v (.bool a2))), (7, .own 1 (v6.map (cI .i64))), (34, .d (.v (.int .i64 (a1.length : Int)))), (35, .d (.v (.int .i64 (IntKind.i64.wrap (v5 + (1 : Int))))))] [] 2 (by kernel_rfl) (trivial) fun a w hm => then_norm (⟨(v6, IntKind.i64.wrap (v5 + (1 : Int))), h, hm.co (cs := [.keep [0, 1, 2, 7, 34, 35]]) (by show _ = _; kernel_rfl)⟩)
      · have h := cond_ff hc h
        obtain hs := Option.some.inj h; subst hs
        refine T_exit fun a w hm => then_exit (then_exit (inBlock_exit (then_norm (hm.co (cs := [.keep [7]]) (by show _ = _; kernel_rfl)))))
    · skip
      refine fun a w hm => then_norm (((?_ : T Try.prog e 59 _ _ _) a w hm))
      refine T_region [] [6, 7] [] [(6, .vw (7, 0)), (7, .own 1 (v8.map (cI .i64)))] [] 2 (by kernel_rfl) (trivial) ?_
      obtain hs := Option.some.inj h; subst hs
      refine T_ret fun a w hm => T_return (fr' := [(6, .own 1 (v8.map (cI .i64)))]) [6] (by kernel_rfl) [.claim 6, .keep [6]] (by kernel_rfl) (by kernel_rfl) (by kernel_rfl) (by show _ = _; kernel_rfl) (by exact trivial) a w hm

theorem f4_ok {F : Nat} {a0 : List (List Int)} {a1 : List Int} {a2 : Int} {r : Bool} (h : f4 F a0 a1 a2 = some r) : ACall Try.prog 4 [.d (.sl 1 (a0.map (cL 1 (cI .i64)))), .d (.sl 1 (a1.map (cI .i64))), .d (.v (.int .i64 a2))] [] (.d (.v (.bool r))) [] := by
  rw [f4] at h
  refine ACall.intro (N := 101) Try.func4 rfl rfl rfl rfl rfl fun e => ?_
  refine T_region [] [0, 1, 2] [] [(0, .d (.sl 1 (a0.map (cL 1 (cI .i64))))), (1, .d (.sl 1 (a1.map (cI .i64)))), (2, .d (.v (.int .i64 a2)))] [] 1 (by kernel_rfl) (trivial) ?_
  refine T_seqk ?_
  obtain ⟨y1, hy1, h⟩ := call_ok h
  refine T_region [(0, { res := .d (.v (.bool y1)) })] [0, 1, 2, 15] [] [(0, .d (.sl 1 (a0.map (cL 1 (cI .i64))))), (1, .d (.sl 1 (a1.map (cI .i64)))), (2, .d (.v (.int .i64 a2))), (15, .d (.v (.bool (!y1))))] [(0, ACall Try.prog 6 [] [] (.d (.v (.bool y1))) [])] 1 (by kernel_rfl) (f6_ok hy1) ?_
  refine T_cond (!y1) (by kernel_rfl) (fun hc => ?_) (fun hc => ?_)
  · have h := cond_tt hc h
    refine T_region [] [6] [] [(6, .d (.v (.bool false)))] [] 1 (by kernel_rfl) (trivial) ?_
    obtain hs := Option.some.inj h; subst hs
    refine T_ret fun a w hm => then_ret (T_return (fr' := [(6, .d (.v (.bool false)))]) [6] (by kernel_rfl) [.keep [6]] (by kernel_rfl) (by kernel_rfl) (by kernel_rfl) (by show _ = _; kernel_rfl) (by exact trivial) a w hm)
  · have h := cond_ff hc h
    refine T_skip fun a w hm => then_norm (((?_ : T Try.prog e 101 _ _ _) a w hm))
    obtain ⟨y2, hy2, h⟩ := call_ok h
    refine T_region [(3, { res := .tup [.own 1 (y2.1.map (cI .i64)), .d (.v (.int .i64 y2.2))] })] [0, 1, 2, 7, 8] [] [(0, .d (.sl 1 (a0.map (cL 1 (cI .i64))))), (1, .d (.sl 1 (a1.map (cI .i64)))), (2, .d (.v (.int .i64 a2))), (7, .own 1 (y2.1.map (cI .i64))), (8, .d (.v (.int .i64 y2.2)))] [(3, ACall Try.prog 10 [.d (.sl 1 (a0.map (cL 1 (cI .i64)))), .d (.sl 1 (a1.map (cI .i64))), .d (.v (.int .i64 a2))] [] (.tup [.own 1 (y2.1.map (cI .i64)), .d (.v (.int .i64 y2.2))]) [])] 5 (by kernel_rfl) (f10_ok hy2) ?_
    refine T_region [] [0, 1, 2, 7, 8, 9] [] [(0, .d (.sl 1 (a0.map (cL 1 (cI .i64))))), (1, .d (.sl 1 (a1.map (cI .i64)))), (2, .d (.v (.int .i64 a2))), (7, .own 1 (y2.1.map (cI .i64))), (8, .d (.v (.int .i64 y2.2))), (9, .d (.v (.int .i64 (0 : Int))))] [] 1 (by kernel_rfl) (trivial) ?_
    refine T_joinc h (fun (p : Int) => [(0, .d (.sl 1 (a0.map (cL 1 (cI .i64))))), (1, .d (.sl 1 (a1.map (cI .i64)))), (2, .d (.v (.int .i64 a2))), (7, .own 1 (y2.1.map (cI .i64))), (8, .d (.v (.int .i64 y2.2))), (9, .d (.v (.int .i64 p)))]) (fun s h => ?_) (fun v7 h => ?_)
    · obtain ⟨z3, hz1, h⟩ := lett_ok h
      refine T_region [(1, { rw := some (.d (.v (.int .i64 (a0.length : Int)))) }), (5, { rw := some (.d (.v (.int .i64 (a1.length : Int)))) }), (7, { rw := some (.d (.v (.bool z3))) })] [0, 1, 2, 7, 8, 9, 30] [] [(0, .d (.sl 1 (a0.map (cL 1 (cI .i64))))), (1, .d (.sl 1 (a1.map (cI .i64)))), (2, .d (.v (.int .i64 a2))), (7, .own 1 (y2.1.map (cI .i64))), (8, .d (.v (.int .i64 y2.2))), (9, .d (.v (.int .i64 (0 : Int)))), (30, .d (.v (.bool z3)))] [(1, True ∧ AV.d (.v (.int .i64 ((a0.map (cL 1 (cI .i64))).length : Int))) = .d (.v (.int .i64 (a0.length : Int)))), (2, ((((decide ((a0.length : Int) > (64 : Int))) == false) && true) = true → True)), (0, ((((decide ((a0.length : Int) > (64 : Int))) == false) && true) = true → True ∧ AV.d (.v (.int .i64 ((a1.map (cI .i64)).length : Int))) = .d (.v (.int .i64 (a1.length : Int))))), (0, ((((decide ((a0.length : Int) > (64 : Int))) == false) && true) = true → True)), (0, (True) ∧ AV.d (.v (.bool (bif (decide ((a0.length : Int) > (64 : Int))) then true else (decide ((a1.length : Int) > (64 : Int)))))) = .d (.v (.bool z3)))] 0 (by kernel_rfl) (⟨len_ok (cL 1 (cI .i64)), (fun hg => trivial), (fun hg => len_ok (cI .i64)), (fun hg => trivial), ⟨trivial, (by subst hz1; rfl)⟩⟩) ?_
      refine T_cond z3 (by kernel_rfl) (fun hc => ?_) (fun hc => ?_)
      · have h := cond_tt hc h
        obtain hs := Option.some.inj h; subst hs
        refine T_region_end [] [0, 1, 2, 7, 8, 9] [] [(0, .d (.sl 1 (a0.map (cL 1 (cI .i64))))), (1, .d (.sl 1 (a1.map (cI .i64)))), (2, .d (.v (.int .i64 a2))), (7, .own 1 (y2.1.map (cI .i64))), (8, .d (.v (.int .i64 y2.2))), (9, .d (.v (.int .i64 (2 : Int))))] [] 1 (by kernel_rfl) (trivial) fun a w hm => then_norm (hm.co (cs := [.keep [0, 1, 2, 7, 8, 9]]) (by show _ = _; kernel_rfl))
      · have h := cond_ff hc h
        obtain hs := Option.some.inj h; subst hs
        refine T_skip fun a w hm => then_norm (hm.co (cs := [.keep [0, 1, 2, 7, 8, 9]]) (by show _ = _; kernel_rfl))
    · skip
      refine T_seqk ?_
      refine T_region [(1, { rw := some (.d (.v (.int .i64 (a0.length : Int)))) })] [0, 1, 2, 7, 8, 9, 31, 32, 33] [] [(0, .d (.sl 1 (a0.map (cL 1 (cI .i64))))), (1, .d (.sl 1 (a1.map (cI .i64)))), (2, .d (.v (.int .i64 a2))), (7, .own 1 (y2.1.map (cI .i64))), (8, .d (.v (.int .i64 y2.2))), (9, .d (.v (.int .i64 v7))), (31, .d (.sl 1 (a0.map (cL 1 (cI .i64))))), (32, .d (.v (.int .i64 (a0.length : Int)))), (33, .d (.v (.int .i64 (0 : Int))))] [(1, True ∧ AV.d (.v (.int .i64 ((a0.map (cL 1 (cI .i64))).length : Int))) = .d (.v (.int .i64 (a0.length : Int))))] 1 (by kernel_rfl) (len_ok (cL 1 (cI .i64))) ?_
      refine T_joinct h (fun (p : Int) => [(0, .d (.sl 1 (a0.map (cL 1 (cI .i64))))), (1, .d (.sl 1 (a1.map (cI .i64)))), (2, .d (.v (.int .i64 a2))), (7, .own 1 (y2.1.map (cI .i64))), (8, .d (.v (.int .i64 y2.2))), (9, .d (.v (.int .i64 p)))]) (fun s h => ?_) (fun v8 h => ?_)
      · refine T_co [.keep [0, 1, 2, 7, 8, 9, 31, 32, 33]] ((fun (p : Int × Int) => [(0, .d (.sl 1 (a0.map (cL 1 (cI .i64))))), (1, .d (.sl 1 (a1.map (cI .i64)))), (2, .d (.v (.int .i64 a2))), (7, .own 1 (y2.1.map (cI .i64))), (8, .d (.v (.int .i64 y2.2))), (9, .d (.v (.int .i64 p.1))), (31, .d (.sl 1 (a0.map (cL 1 (cI .i64))))), (32, .d (.v (.int .i64 (a0.length : Int)))), (33, .d (.v (.int .i64 p.2)))]) (v7, (0 : Int))) (by show _ = _; kernel_rfl) ?_
        refine T_block ?_
        refine T_loopF (ι := Int × Int) (fun (p : Int × Int) => [(0, .d (.sl 1 (a0.map (cL 1 (cI .i64))))), (1, .d (.sl 1 (a1.map (cI .i64)))), (2, .d (.v (.int .i64 a2))), (7, .own 1 (y2.1.map (cI .i64))), (8, .d (.v (.int .i64 y2.2))), (9, .d (.v (.int .i64 p.1))), (31, .d (.sl 1 (a0.map (cL 1 (cI .i64))))), (32, .d (.v (.int .i64 (a0.length : Int)))), (33, .d (.v (.int .i64 p.2)))]) (fun n p => f4_L0 F a0 n p.1 p.2 = some s) (fun i hh => by simp [f4_L0] at hh) (fun n p h => ?_) F (v7, (0 : Int)) h
        obtain ⟨v1, v2⟩ := p
        have h : f4_L0 F a0 (n + 1) v1 v2 = some s := h
        rw [f4_L0] at h
        refine T_region [] [0, 1, 2, 7, 8, 9, 31, 32, 33, 34] [] [(0, .d (.sl 1 (a0.map (cL 1 (cI .i64))))), (1, .d (.sl 1 (a1.map (cI .i64)))), (2, .d (.v (.int .i64 a2))), (7, .own 1 (y2.1.map (cI .i64))), (8, .d (.v (.int .i64 y2.2))), (9, .d (.v (.int .i64 v1))), (31, .d (.sl 1 (a0.map (cL 1 (cI .i64))))), (32, .d (.v (.int .i64 (a0.length : Int)))), (33, .d (.v (.int .i64 v2))), (34, .d (.v (.bool (decide (v2 < (a0.length : Int))))))] [] 1 (by kernel_rfl) (trivial) ?_
        refine T_seqk ?_
        refine T_cond (decide (v2 < (a0.length : Int))) (by kernel_rfl) (fun hc => ?_) (fun hc => ?_)
        · have h := cond_tt hc h
          refine T_skip fun a w hm => then_norm (((?_ : T Try.prog e 101 _ _ _) a w hm))
          refine T_joinc h (fun (p : Int) => [(0, .d (.sl 1 (a0.map (cL 1 (cI .i64))))), (1, .d (.sl 1 (a1.map (cI .i64)))), (2, .d (.v (.int .i64 a2))), (7, .own 1 (y2.1.map (cI .i64))), (8, .d (.v (.int .i64 y2.2))), (9, .d (.v (.int .i64 p))), (31, .d (.sl 1 (a0.map (cL 1 (cI .i64))))), (32, .d (.v (.int .i64 (a0.length : Int)))), (33, .d (.v (.int .i64 v2)))]) (fun s h => ?_) (fun v3 h => ?_)
          · refine T_block ?_
            obtain ⟨hp1, h⟩ := chk_ok h
            refine T_region [(0, { cs := (cL 1 (cI .i64)) (a0.getD v2.toNat []) })] [0, 1, 2, 7, 8, 9, 11, 31, 32, 33] [] [(0, .d (.sl 1 (a0.map (cL 1 (cI .i64))))), (1, .d (.sl 1 (a1.map (cI .i64)))), (2, .d (.v (.int .i64 a2))), (7, .own 1 (y2.1.map (cI .i64))), (8, .d (.v (.int .i64 y2.2))), (9, .d (.v (.int .i64 v1))), (11, .d (.sl 1 ((a0.getD v2.toNat []).map (cI .i64)))), (31, .d (.sl 1 (a0.map (cL 1 (cI .i64))))), (32, .d (.v (.int .i64 (a0.length : Int)))), (33, .d (.v (.int .i64 v2)))] [(0, 0 ≤ v2 ∧ (a0.map (cL 1 (cI .i64)))[v2.toNat]? = some ((cL 1 (cI .i64)) (a0.getD v2.toNat [])))] 2 (by kernel_rfl) (idx_ok (d := []) (cL 1 (cI .i64)) hp1) ?_
            obtain ⟨z1, hz2, h⟩ := lett_ok h
            refine T_region [(4, { rw := some (.d (.v (.int .i64 ((a0.getD v2.toNat []).length : Int)))) }), (8, { rw := some (.d (.v (.int .i64 ((a0.getD v2.toNat []).length : Int)))) }), (11, { rw := some (.d (.v (.bool z1))) })] [0, 1, 2, 7, 8, 9, 31, 32, 33, 49] [] [(0, .d (.sl 1 (a0.map (cL 1 (cI .i64))))), (1, .d (.sl 1 (a1.map (cI .i64)))), (2, .d (.v (.int .i64 a2))), (7, .own 1 (y2.1.map (cI .i64))), (8, .d (.v (.int .i64 y2.2))), (9, .d (.v (.int .i64 v1))), (31, .d (.sl 1 (a0.map (cL 1 (cI .i64))))), (32, .d (.v (.int .i64 (a0.length : Int)))), (33, .d (.v (.int .i64 v2))), (49, .d (.v (.bool (bif (v1 == (0 : Int)) then z1 else false))))] [(3, ((((v1 == (0 : Int)) == true) && true) = true → True)), (0, ((((v1 == (0 : Int)) == true) && true) = true → True ∧ AV.d (.v (.int .i64 (((a0.getD v2.toNat []).map (cI .i64)).length : Int))) = .d (.v (.int .i64 ((a0.getD v2.toNat []).length : Int))))), (0, ((((v1 == (0 : Int)) == true) && true) = true → True)), (0, ((((v1 == (0 : Int)) == true) && true) = true → True)), (0, ((((decide (((a0.getD v2.toNat []).length : Int) > (64 : Int))) == false) && (((v1 == (0 : Int)) == true) && true)) = true → True)), (0, ((((decide (((a0.getD v2.toNat []).length : Int) > (64 : Int))) == false) && (((v1 == (0 : Int)) == true) && true)) = true → True ∧ AV.d (.v (.int .i64 (((a0.getD v2.toNat []).map (cI .i64)).length : Int))) = .d (.v (.int .i64 ((a0.getD v2.toNat []).length : Int))))), (0, ((((decide (((a0.getD v2.toNat []).length : Int) > (64 : Int))) == false) && (((v1 == (0 : Int)) == true) && true)) = true → (2 : Int) ≠ 0)), (0, ((((decide (((a0.getD v2.toNat []).length : Int) > (64 : Int))) == false) && (((v1 == (0 : Int)) == true) && true)) = true → True)), (0, ((((v1 == (0 : Int)) == true) && true) = true → (True) ∧ AV.d (.v (.bool (bif (decide (((a0.getD v2.toNat []).length : Int) > (64 : Int))) then true else ((((a0.getD v2.toNat []).length : Int).tmod (2 : Int)) == (1 : Int))))) = .d (.v (.bool z1))))] 1 (by kernel_rfl) (⟨(fun hg => trivial), (fun hg => len_ok (cI .i64)), (fun hg => trivial), (fun hg => trivial), (fun hg => trivial), (fun hg => len_ok (cI .i64)), (fun hg => (show (2 : Int) ≠ 0 by decide)), (fun hg => trivial), (fun hg => ⟨trivial, (by subst hz2; rfl)⟩)⟩) ?_
            refine T_cond (bif (v1 == (0 : Int)) then z1 else false) (by kernel_rfl) (fun hc => ?_) (fun hc => ?_)
            · have h := cond_tt hc h
              obtain hs := Option.some.inj h; subst hs
              refine T_region_end [] [0, 1, 2, 7, 8, 9, 31, 32, 33] [] [(0, .d (.sl 1 (a0.map (cL 1 (cI .i64))))), (1, .d (.sl 1 (a1.map (cI .i64)))), (2, .d (.v (.int .i64 a2))), (7, .own 1 (y2.1.map (cI .i64))), (8, .d (.v (.int .i64 y2.2))), (9, .d (.v (.int .i64 (4 : Int)))), (31, .d (.sl 1 (a0.map (cL 1 (cI .i64))))), (32, .d (.v (.int .i64 (a0.length : Int)))), (33, .d (.v (.int .i64 v2)))] [] 1 (by kernel_rfl) (trivial) fun a w hm => inBlock_norm (then_norm (hm.co (cs := [.keep [0, 1, 2, 7, 8, 9, 31, 32, 33]]) (by show _ = _; kernel_rfl)))
            · have h := cond_ff hc h
              obtain hs := Option.some.inj h; subst hs
              refine T_skip fun a w hm => inBlock_norm (then_norm (hm.co (cs := [.keep [0, 1, 2, 7, 8, 9, 31, 32, 33]]) (by show _ = _; kernel_rfl)))
          · skip
            refine T_region_end [] [0, 1, 2, 7, 8, 9, 31, 32, 33] [] [(0, .d (.sl 1 (a0.map (cL 1 (cI .i64))))), (1, .d (.sl 1 (a1.map (cI .i64)))), (2, .d (.v (.int .i64 a2))), (7, .own 1 (y2.1.map (cI .i64))), (8, .d (.v (.int .i64 y2.2))), (9, .d (.v (.int .i64 v3))), (31, .d (.sl 1 (a0.map (cL 1 (cI .i64))))), (32, .d (.v (.int .i64 (a0.length : Int)))), (33, .d (.v (.int .i64 (IntKind.i64.wrap (v2 + (1 : Int))))))] [] 2 (by kernel_rfl) (trivial) fun a w hm => then_norm (⟨(v3, IntKind.i64.wrap (v2 + (1 : Int))), h, hm.co (cs := [.keep [0, 1, 2, 7, 8, 9, 31, 32, 33]]) (by show _ = _; kernel_rfl)⟩)
        · have h := cond_ff hc h
          obtain hs := Option.some.inj h; subst hs
          refine T_exit fun a w hm => then_exit (then_exit (inBlock_exit (then_norm (hm.co (cs := [.keep [0, 1, 2, 7, 8, 9]]) (by show _ = _; kernel_rfl)))))
      · skip
        refine fun a w hm => then_norm (((?_ : T Try.prog e 101 _ _ _) a w hm))
        refine T_joinc h (fun (p : Int) => [(0, .d (.sl 1 (a0.map (cL 1 (cI .i64))))), (1, .d (.sl 1 (a1.map (cI .i64)))), (2, .d (.v (.int .i64 a2))), (7, .own 1 (y2.1.map (cI .i64))), (8, .d (.v (.int .i64 y2.2))), (9, .d (.v (.int .i64 p)))]) (fun s h => ?_) (fun v9 h => ?_)
        · refine T_region [] [0, 1, 2, 7, 8, 9, 60] [] [(0, .d (.sl 1 (a0.map (cL 1 (cI .i64))))), (1, .d (.sl 1 (a1.map (cI .i64)))), (2, .d (.v (.int .i64 a2))), (7, .own 1 (y2.1.map (cI .i64))), (8, .d (.v (.int .i64 y2.2))), (9, .d (.v (.int .i64 v8))), (60, .d (.v (.bool (bif (bif (v8 == (0 : Int)) then (a2 != (0 : Int)) else false) then (a2 != (1 : Int)) else false))))] [(3, ((((v8 == (0 : Int)) == true) && true) = true → True)), (0, ((((v8 == (0 : Int)) == true) && true) = true → True)), (2, ((((bif (v8 == (0 : Int)) then (a2 != (0 : Int)) else false) == true) && true) = true → True)), (0, ((((bif (v8 == (0 : Int)) then (a2 != (0 : Int)) else false) == true) && true) = true → True))] 1 (by kernel_rfl) (⟨(fun hg => trivial), (fun hg => trivial), (fun hg => trivial), (fun hg => trivial)⟩) ?_
          refine T_cond (bif (bif (v8 == (0 : Int)) then (a2 != (0 : Int)) else false) then (a2 != (1 : Int)) else false) (by kernel_rfl) (fun hc => ?_) (fun hc => ?_)
          · have h := cond_tt hc h
            obtain hs := Option.some.inj h; subst hs
            refine T_region_end [] [0, 1, 2, 7, 8, 9] [] [(0, .d (.sl 1 (a0.map (cL 1 (cI .i64))))), (1, .d (.sl 1 (a1.map (cI .i64)))), (2, .d (.v (.int .i64 a2))), (7, .own 1 (y2.1.map (cI .i64))), (8, .d (.v (.int .i64 y2.2))), (9, .d (.v (.int .i64 (14 : Int))))] [] 1 (by kernel_rfl) (trivial) fun a w hm => then_norm (hm.co (cs := [.keep [0, 1, 2, 7, 8, 9]]) (by show _ = _; kernel_rfl))
          · have h := cond_ff hc h
            obtain hs := Option.some.inj h; subst hs
            refine T_skip fun a w hm => then_norm (hm.co (cs := [.keep [0, 1, 2, 7, 8, 9]]) (by show _ = _; kernel_rfl))
        · skip
          refine T_seqk ?_
          refine T_region [(1, { rw := some (.d (.v (.int .i64 (a1.length : Int)))) })] [0, 1, 2, 7, 8, 9, 61, 62, 63] [] [(0, .d (.sl 1 (a0.map (cL 1 (cI .i64))))), (1, .d (.sl 1 (a1.map (cI .i64)))), (2, .d (.v (.int .i64 a2))), (7, .own 1 (y2.1.map (cI .i64))), (8, .d (.v (.int .i64 y2.2))), (9, .d (.v (.int .i64 v9))), (61, .d (.sl 1 (a1.map (cI .i64)))), (62, .d (.v (.int .i64 (a1.length : Int)))), (63, .d (.v (.int .i64 (0 : Int))))] [(1, True ∧ AV.d (.v (.int .i64 ((a1.map (cI .i64)).length : Int))) = .d (.v (.int .i64 (a1.length : Int))))] 1 (by kernel_rfl) (len_ok (cI .i64)) ?_
          refine T_joinct h (fun (p : Int) => [(0, .d (.sl 1 (a0.map (cL 1 (cI .i64))))), (1, .d (.sl 1 (a1.map (cI .i64)))), (2, .d (.v (.int .i64 a2))), (7, .own 1 (y2.1.map (cI .i64))), (8, .d (.v (.int .i64 y2.2))), (9, .d (.v (.int .i64 p)))]) (fun s h => ?_) (fun v10 h => ?_)
          · refine T_co [.keep [0, 1, 2, 7, 8, 9, 61, 62, 63]] ((fun (p : Int × Int) => [(0, .d (.sl 1 (a0.map (cL 1 (cI .i64))))), (1, .d (.sl 1 (a1.map (cI .i64)))), (2, .d (.v (.int .i64 a2))), (7, .own 1 (y2.1.map (cI .i64))), (8, .d (.v (.int .i64 y2.2))), (9, .d (.v (.int .i64 p.1))), (61, .d (.sl 1 (a1.map (cI .i64)))), (62, .d (.v (.int .i64 (a1.length : Int)))), (63, .d (.v (.int .i64 p.2)))]) (v9, (0 : Int))) (by show _ = _; kernel_rfl) ?_
            refine T_block ?_
            refine T_loopF (ι := Int × Int) (fun (p : Int × Int) => [(0, .d (.sl 1 (a0.map (cL 1 (cI .i64))))), (1, .d (.sl 1 (a1.map (cI .i64)))), (2, .d (.v (.int .i64 a2))), (7, .own 1 (y2.1.map (cI .i64))), (8, .d (.v (.int .i64 y2.2))), (9, .d (.v (.int .i64 p.1))), (61, .d (.sl 1 (a1.map (cI .i64)))), (62, .d (.v (.int .i64 (a1.length : Int)))), (63, .d (.v (.int .i64 p.2)))]) (fun n p => f4_L2 F a0 a1 n p.1 p.2 = some s) (fun i hh => by simp [f4_L2] at hh) (fun n p h => ?_) F (v9, (0 : Int)) h
            obtain ⟨v4, v5⟩ := p
            have h : f4_L2 F a0 a1 (n + 1) v4 v5 = some s := h
            rw [f4_L2] at h
            refine T_region [] [0, 1, 2, 7, 8, 9, 61, 62, 63, 64] [] [(0, .d (.sl 1 (a0.map (cL 1 (cI .i64))))), (1, .d (.sl 1 (a1.map (cI .i64)))), (2, .d (.v (.int .i64 a2))), (7, .own 1 (y2.1.map (cI .i64))), (8, .d (.v (.int .i64 y2.2))), (9, .d (.v (.int .i64 v4))), (61, .d (.sl 1 (a1.map (cI .i64)))), (62, .d (.v (.int .i64 (a1.length : Int)))), (63, .d (.v (.int .i64 v5))), (64, .d (.v (.bool (decide (v5 < (a1.length : Int))))))] [] 1 (by kernel_rfl) (trivial) ?_
            refine T_seqk ?_
            refine T_cond (decide (v5 < (a1.length : Int))) (by kernel_rfl) (fun hc => ?_) (fun hc => ?_)
            · have h := cond_tt hc h
              refine T_skip fun a w hm => then_norm (((?_ : T Try.prog e 101 _ _ _) a w hm))
              refine T_joinc h (fun (p : Int) => [(0, .d (.sl 1 (a0.map (cL 1 (cI .i64))))), (1, .d (.sl 1 (a1.map (cI .i64)))), (2, .d (.v (.int .i64 a2))), (7, .own 1 (y2.1.map (cI .i64))), (8, .d (.v (.int .i64 y2.2))), (9, .d (.v (.int .i64 p))), (61, .d (.sl 1 (a1.map (cI .i64)))), (62, .d (.v (.int .i64 (a1.length : Int)))), (63, .d (.v (.int .i64 v5)))]) (fun s h => ?_) (fun v6 h => ?_)
              · refine T_block ?_
                obtain ⟨hp2, h⟩ := chk_ok h
                refine T_region [(0, { cs := (cI .i64) (a1.getD v5.toNat 0) })] [0, 1, 2, 7, 8, 9, 13, 61, 62, 63] [] [(0, .d (.sl 1 (a0.map (cL 1 (cI .i64))))), (1, .d (.sl 1 (a1.map (cI .i64)))), (2, .d (.v (.int .i64 a2))), (7, .own 1 (y2.1.map (cI .i64))), (8, .d (.v (.int .i64 y2.2))), (9, .d (.v (.int .i64 v4))), (13, .d (.v (.int .i64 (a1.getD v5.toNat 0)))), (61, .d (.sl 1 (a1.map (cI .i64)))), (62, .d (.v (.int .i64 (a1.length : Int)))), (63, .d (.v (.int .i64 v5)))] [(0, 0 ≤ v5 ∧ (a1.map (cI .i64))[v5.toNat]? = some ((cI .i64) (a1.getD v5.toNat 0)))] 2 (by kernel_rfl) (idx_ok (d := 0) (cI .i64) hp2) ?_
                obtain ⟨z2, hz3, h⟩ := lett_ok h
                refine T_region [(8, { rw := some (.d (.v (.int .i64 (a0.length : Int)))) }), (10, { rw := some (.d (.v (.bool z2))) })] [0, 1, 2, 7, 8, 9, 61, 62, 63, 78] [] [(0, .d (.sl 1 (a0.map (cL 1 (cI .i64))))), (1, .d (.sl 1 (a1.map (cI .i64)))), (2, .d (.v (.int .i64 a2))), (7, .own 1 (y2.1.map (cI .i64))), (8, .d (.v (.int .i64 y2.2))), (9, .d (.v (.int .i64 v4))), (61, .d (.sl 1 (a1.map (cI .i64)))), (62, .d (.v (.int .i64 (a1.length : Int)))), (63, .d (.v (.int .i64 v5))), (78, .d (.v (.bool (bif (v4 == (0 : Int)) then z2 else false))))] [(3, ((((v4 == (0 : Int)) == true) && true) = true → True)), (0, ((((v4 == (0 : Int)) == true) && true) = true → True)), (0, ((((v4 == (0 : Int)) == true) && true) = true → True)), (0, ((((decide ((a1.getD v5.toNat 0) < (0 : Int))) == false) && (((v4 == (0 : Int)) == true) && true)) = true → True)), (0, ((((decide ((a1.getD v5.toNat 0) < (0 : Int))) == false) && (((v4 == (0 : Int)) == true) && true)) = true → True)), (0, ((((decide ((a1.getD v5.toNat 0) < (0 : Int))) == false) && (((v4 == (0 : Int)) == true) && true)) = true → True ∧ AV.d (.v (.int .i64 ((a0.map (cL 1 (cI .i64))).length : Int))) = .d (.v (.int .i64 (a0.length : Int))))), (0, ((((decide ((a1.getD v5.toNat 0) < (0 : Int))) == false) && (((v4 == (0 : Int)) == true) && true)) = true → True)), (0, ((((v4 == (0 : Int)) == true) && true) = true → (True) ∧ AV.d (.v (.bool (bif (decide ((a1.getD v5.toNat 0) < (0 : Int))) then true else (decide ((a1.getD v5.toNat 0) ≥ (a0.length : Int)))))) = .d (.v (.bool z2))))] 1 (by kernel_rfl) (⟨(fun hg => trivial), (fun hg => trivial), (fun hg => trivial), (fun hg => trivial), (fun hg => trivial), (fun hg => len_ok (cL 1 (cI .i64))), (fun hg => trivial), (fun hg => ⟨trivial, (by subst hz3; rfl)⟩)⟩) ?_
                refine T_cond (bif (v4 == (0 : Int)) then z2 else false) (by kernel_rfl) (fun hc => ?_) (fun hc => ?_)
                · have h := cond_tt hc h
                  obtain hs := Option.some.inj h; subst hs
                  refine T_region_end [] [0, 1, 2, 7, 8, 9, 61, 62, 63] [] [(0, .d (.sl 1 (a0.map (cL 1 (cI .i64))))), (1, .d (.sl 1 (a1.map (cI .i64)))), (2, .d (.v (.int .i64 a2))), (7, .own 1 (y2.1.map (cI .i64))), (8, .d (.v (.int .i64 y2.2))), (9, .d (.v (.int .i64 (3 : Int)))), (61, .d (.sl 1 (a1.map (cI .i64)))), (62, .d (.v (.int .i64 (a1.length : Int)))), (63, .d (.v (.int .i64 v5)))] [] 1 (by kernel_rfl) (trivial) fun a w hm => inBlock_norm (then_norm (hm.co (cs := [.keep [0, 1, 2, 7, 8, 9, 61, 62, 63]]) (by show _ = _; kernel_rfl)))
                · have h := cond_ff hc h
                  obtain hs := Option.some.inj h; subst hs
                  refine T_skip fun a w hm => inBlock_norm (then_norm (hm.co (cs := [.keep [0, 1, 2, 7, 8, 9, 61, 62, 63]]) (by show _ = _; kernel_rfl)))
              · skip
                refine T_region_end [] [0, 1, 2, 7, 8, 9, 61, 62, 63] [] [(0, .d (.sl 1 (a0.map (cL 1 (cI .i64))))), (1, .d (.sl 1 (a1.map (cI .i64)))), (2, .d (.v (.int .i64 a2))), (7, .own 1 (y2.1.map (cI .i64))), (8, .d (.v (.int .i64 y2.2))), (9, .d (.v (.int .i64 v6))), (61, .d (.sl 1 (a1.map (cI .i64)))), (62, .d (.v (.int .i64 (a1.length : Int)))), (63, .d (.v (.int .i64 (IntKind.i64.wrap (v5 + (1 : Int))))))] [] 2 (by kernel_rfl) (trivial) fun a w hm => then_norm (⟨(v6, IntKind.i64.wrap (v5 + (1 : Int))), h, hm.co (cs := [.keep [0, 1, 2, 7, 8, 9, 61, 62, 63]]) (by show _ = _; kernel_rfl)⟩)
            · have h := cond_ff hc h
              obtain hs := Option.some.inj h; subst hs
              refine T_exit fun a w hm => then_exit (then_exit (inBlock_exit (then_norm (hm.co (cs := [.keep [0, 1, 2, 7, 8, 9]]) (by show _ = _; kernel_rfl)))))
          · skip
            refine fun a w hm => then_norm (((?_ : T Try.prog e 101 _ _ _) a w hm))
            refine T_seqk ?_
            refine T_region [] [0, 1, 2, 7, 8, 9, 81] [] [(0, .d (.sl 1 (a0.map (cL 1 (cI .i64))))), (1, .d (.sl 1 (a1.map (cI .i64)))), (2, .d (.v (.int .i64 a2))), (7, .own 1 (y2.1.map (cI .i64))), (8, .d (.v (.int .i64 y2.2))), (9, .d (.v (.int .i64 v10))), (81, .d (.v (.bool (v10 != (0 : Int)))))] [] 2 (by kernel_rfl) (trivial) ?_
            refine T_cond (v10 != (0 : Int)) (by kernel_rfl) (fun hc => ?_) (fun hc => ?_)
            · have h := cond_tt hc h
              refine T_region [(5, { rw := some (.d (.v (.int .i64 (y2.1.length : Int)))) })] [6] [] [(6, .d (.v (.bool (bif (y2.2 == v10) then ((y2.1.length : Int) == (0 : Int)) else false))))] [(4, ((((y2.2 == v10) == true) && true) = true → True)), (0, ((((y2.2 == v10) == true) && true) = true → True ∧ AV.d (.v (.int .i64 ((y2.1.map (cI .i64)).length : Int))) = .d (.v (.int .i64 (y2.1.length : Int))))), (0, ((((y2.2 == v10) == true) && true) = true → True))] 2 (by kernel_rfl) (⟨(fun hg => trivial), (fun hg => len_ok (cI .i64)), (fun hg => trivial)⟩) ?_
              obtain hs := Option.some.inj h; subst hs
              refine T_ret fun a w hm => then_ret (T_return (fr' := [(6, .d (.v (.bool (bif (y2.2 == v10) then ((y2.1.length : Int) == (0 : Int)) else false))))]) [6] (by kernel_rfl) [.keep [6]] (by kernel_rfl) (by kernel_rfl) (by kernel_rfl) (by show _ = _; kernel_rfl) (by exact trivial) a w hm)
            · have h := cond_ff hc h
              refine T_skip fun a w hm => then_norm (((?_ : T Try.prog e 101 _ _ _) a w hm))
              obtain ⟨y3, hy3, h⟩ := call_ok h
              obtain ⟨y4, hy4, h⟩ := call_ok h
              refine T_region [(8, { res := .d (.sl 1 (y3.map (cI .i64))) }), (9, { res := .d (.v (.bool y4)) })] [6] [] [(6, .d (.v (.bool (bif (y2.2 == (0 : Int)) then y4 else false))))] [(3, ((((y2.2 == (0 : Int)) == true) && true) = true → True)), (0, ((((y2.2 == (0 : Int)) == true) && true) = true → True)), (0, ((((y2.2 == (0 : Int)) == true) && true) = true → True)), (0, ((((y2.2 == (0 : Int)) == true) && true) = true → True)), (0, ((((y2.2 == (0 : Int)) == true) && true) = true → True)), (0, ((((y2.2 == (0 : Int)) == true) && true) = true → ACall Try.prog 9 [.d (.sl 1 (a0.map (cL 1 (cI .i64)))), .d (.sl 1 (a1.map (cI .i64))), .d (.v (.bool (a2 == (1 : Int))))] [] (.d (.sl 1 (y3.map (cI .i64)))) [])), (0, ((((y2.2 == (0 : Int)) == true) && true) = true → ACall Try.prog 11 [.d (.sl 1 (y2.1.map (cI .i64))), .d (.sl 1 (y3.map (cI .i64)))] [] (.d (.v (.bool y4))) []))] 2 (by kernel_rfl) (⟨(fun hg => trivial), (fun hg => trivial), (fun hg => trivial), (fun hg => trivial), (fun hg => trivial), (fun hg => ACall.thawRes (f9_ok (gcall_ok hg hy3))), (fun hg => f11_ok (gcall_ok hg hy4))⟩) ?_
              obtain hs := Option.some.inj h; subst hs
              refine T_ret fun a w hm => T_return (fr' := [(6, .d (.v (.bool (bif (y2.2 == (0 : Int)) then y4 else false))))]) [6] (by kernel_rfl) [.keep [6]] (by kernel_rfl) (by kernel_rfl) (by kernel_rfl) (by show _ = _; kernel_rfl) (by exact trivial) a w hm

end Go.Vm.GenC4
