import Derived.Test.YtknicigahcopjaaProg
import Derived.Test.YtknicigahcopjaaPlanF
namespace Go.Vm.GenC3
open Go.Proofs
theorem mixed : Try.prog.follows .mixedOrders = true := by kernel_rfl
theorem f17_ok {F : Nat} {a0 : List Int} {a1 : Int} {a2 : Int} {c3 : Int} {r : (List Int) × Int} (h : f17 F a0 a1 a2 c3 = some r) : ACall Try.prog 17 [.own 1 (a0.map (cI .i64)), .d (.v (.int .i64 a1)), .d (.v (.int .i64 a2)), .bp 1000000 0] [[.d (.v (.int .i64 c3))]] (.own 1 (r.1.map (cI .i64))) [[.d (.v (.int .i64 r.2))]] := by
  rw [f17] at h
  refine ACall.intro (N := 28) Try.func17 rfl rfl rfl rfl rfl fun e => ?_
  refine T_region [] [0, 1, 2, 3, 1000000] [] [(0, .own 1 (a0.map (cI .i64))), (1, .d (.v (.int .i64 a1))), (2, .d (.v (.int .i64 a2))), (3, .bp 1000000 0), (1000000, .box [.d (.v (.int .i64 c3))])] [] 1 (by kernel_rfl) (trivial) ?_
  refine T_seqk ?_
  refine T_region [] [0, 1, 2, 3, 8, 1000000] [] [(0, .own 1 (a0.map (cI .i64))), (1, .d (.v (.int .i64 a1))), (2, .d (.v (.int .i64 a2))), (3, .bp 1000000 0), (8, .d (.v (.int .i64 a1))), (1000000, .box [.d (.v (.int .i64 c3))])] [] 2 (by kernel_rfl) (trivial) ?_
  refine T_joinct h (fun (p : (List Int)) => [(0, .own 1 (p.map (cI .i64))), (1000000, .box [.d (.v (.int .i64 c3))])]) (fun s h => ?_) (fun v63 h => ?_)
  · refine T_co [.keep [0, 1, 2, 3, 8, 1000000]] ((fun (p : (List Int) × Int) => [(0, .own 1 (p.1.map (cI .i64))), (1, .d (.v (.int .i64 a1))), (2, .d (.v (.int .i64 a2))), (3, .bp 1000000 0), (8, .d (.v (.int .i64 p.2))), (1000000, .box [.d (.v (.int .i64 c3))])]) (a0, a1)) (by show _ = _; kernel_rfl) ?_
    refine T_block ?_
    refine T_loopF (ι := (List Int) × Int) (fun (p : (List Int) × Int) => [(0, .own 1 (p.1.map (cI .i64))), (1, .d (.v (.int .i64 a1))), (2, .d (.v (.int .i64 a2))), (3, .bp 1000000 0), (8, .d (.v (.int .i64 p.2))), (1000000, .box [.d (.v (.int .i64 c3))])]) (fun n p => f17_L0 F a1 a2 c3 n p.1 p.2 = some s) (fun i hh => by simp [f17_L0] at hh) (fun n p h => ?_) F (a0, a1) h
    obtain ⟨v71, v72⟩ := p
    have h : f17_L0 F a1 a2 c3 (n + 1) v71 v72 = some s := h
    rw [f17_L0] at h
    refine T_seqk ?_
    refine T_region [] [0, 1, 2, 3, 8, 14, 1000000] [] [(0, .own 1 (v71.map (cI .i64))), (1, .d (.v (.int .i64 a1))), (2, .d (.v (.int .i64 a2))), (3, .bp 1000000 0), (8, .d (.v (.int .i64 v72))), (14, .d (.v (.bool (decide (v72 < (IntKind.i64.wrap (a1 + a2))))))), (1000000, .box [.d (.v (.int .i64 c3))])] [] 5 (by kernel_rfl) (trivial) ?_
    refine T_cond (decide (v72 < (IntKind.i64.wrap (a1 + a2)))) (by kernel_rfl) (fun hc => ?_) (fun hc => ?_)
    · have h := cond_tt hc h
      refine T_skip fun a w hm => then_norm (((?_ : T Try.prog e 28 _ _ _) a w hm))
      refine T_joinc h (fun (p : (List Int)) => [(0, .own 1 (p.map (cI .i64))), (1, .d (.v (.int .i64 a1))), (2, .d (.v (.int .i64 a2))), (3, .bp 1000000 0), (8, .d (.v (.int .i64 v72))), (1000000, .box [.d (.v (.int .i64 c3))])]) (fun s h => ?_) (fun v81 h => ?_)
      · refine T_block ?_
        refine T_region [] [0, 1, 2, 3, 8, 19, 1000000] [] [(0, .own 1 (v71.map (cI .i64))), (1, .d (.v (.int .i64 a1))), (2, .d (.v (.int .i64 a2))), (3, .bp 1000000 0), (8, .d (.v (.int .i64 v72))), (19, .d (.v (.bool (decide (v72 ≤ c3))))), (1000000, .box [.d (.v (.int .i64 c3))])] [] 3 (by kernel_rfl) (trivial) ?_
        refine T_cond (decide (v72 ≤ c3)) (by kernel_rfl) (fun hc => ?_) (fun hc => ?_)
        · have h := cond_tt hc h
          obtain ⟨hp83, h⟩ := chk_ok h
          obtain hs := Option.some.inj h; subst hs
          refine T_region_end [(2, { es := some (([v72]).map (cI .i64)) }), (3, { es := some ((v71 ++ ([v72])).map (cI .i64)) })] [0, 1, 2, 3, 8, 1000000] [] [(0, .own 1 ((v71 ++ ([v72])).map (cI .i64))), (1, .d (.v (.int .i64 a1))), (2, .d (.v (.int .i64 a2))), (3, .bp 1000000 0), (8, .d (.v (.int .i64 v72))), (1000000, .box [.d (.v (.int .i64 c3))])] [(2, (([v72]).map (cI .i64)) = (([v72]).map (cI .i64))), (0, (v71.map (cI .i64)).length + (([v72]).map (cI .i64)).length ≤ 4294967296 ∧ (v71.map (cI .i64)) ++ (([v72]).map (cI .i64)) = ((v71 ++ ([v72])).map (cI .i64)))] 1 (by kernel_rfl) (⟨rfl, app_ok (cI .i64) hp83⟩) fun a w hm => inBlock_norm (then_norm (hm.co (cs := [.keep [0, 1, 2, 3, 8, 1000000]]) (by show _ = _; kernel_rfl)))
        · have h := cond_ff hc h
          obtain ⟨hp84, h⟩ := chk_ok h
          obtain hs := Option.some.inj h; subst hs
          refine T_region_end [(1, { es := some (([(0 : Int)]).map (cI .i64)) }), (2, { es := some ((v71 ++ ([(0 : Int)])).map (cI .i64)) })] [0, 1, 2, 3, 8, 1000000] [] [(0, .own 1 ((v71 ++ ([(0 : Int)])).map (cI .i64))), (1, .d (.v (.int .i64 a1))), (2, .d (.v (.int .i64 a2))), (3, .bp 1000000 0), (8, .d (.v (.int .i64 v72))), (1000000, .box [.d (.v (.int .i64 c3))])] [(1, (([(0 : Int)]).map (cI .i64)) = (([(0 : Int)]).map (cI .i64))), (0, (v71.map (cI .i64)).length + (([(0 : Int)]).map (cI .i64)).length ≤ 4294967296 ∧ (v71.map (cI .i64)) ++ (([(0 : Int)]).map (cI .i64)) = ((v71 ++ ([(0 : Int)])).map (cI .i64)))] 1 (by kernel_rfl) (⟨rfl, app_ok (cI .i64) hp84⟩) fun a w hm => inBlock_norm (then_norm (hm.co (cs := [.keep [0, 1, 2, 3, 8, 1000000]]) (by show _ = _; kernel_rfl)))
      · skip
        refine T_region_end [] [0, 1, 2, 3, 8, 1000000] [] [(0, .own 1 (v81.map (cI .i64))), (1, .d (.v (.int .i64 a1))), (2, .d (.v (.int .i64 a2))), (3, .bp 1000000 0), (8, .d (.v (.int .i64 (IntKind.i64.wrap (v72 + (1 : Int)))))), (1000000, .box [.d (.v (.int .i64 c3))])] [] 3 (by kernel_rfl) (trivial) fun a w hm => then_norm (⟨(v81, IntKind.i64.wrap (v72 + (1 : Int))), h, hm.co (cs := [.keep [0, 1, 2, 3, 8, 1000000]]) (by show _ = _; kernel_rfl)⟩)
    · have h := cond_ff hc h
      obtain hs := Option.some.inj h; subst hs
      refine T_exit fun a w hm => then_exit (then_exit (inBlock_exit (then_norm (hm.co (cs := [.keep [0, 1000000]]) (by show _ = _; kernel_rfl)))))
  · skip
    refine fun a w hm => then_norm (((?_ : T Try.prog e 28 _ _ _) a w hm))
    refine T_region [] [0, 7, 1000000] [] [(0, .own 1 (v63.map (cI .i64))), (7, .vw (0, 0)), (1000000, .box [.d (.v (.int .i64 c3))])] [] 2 (by kernel_rfl) (trivial) ?_
    obtain hs := Option.some.inj h; subst hs
    refine T_ret fun a w hm => T_return (fr' := [(7, .own 1 (v63.map (cI .i64))), (1000000, .box [.d (.v (.int .i64 c3))])]) [7] (by kernel_rfl) [.claim 7, .keep [7, 1000000]] (by kernel_rfl) (by kernel_rfl) (by kernel_rfl) (by show _ = _; kernel_rfl) (by exact ⟨⟨by kernel_rfl, by kernel_rfl⟩, trivial⟩) a w hm

theorem f7_ok {F : Nat} {a0 : Int} {a1 : Int} {a2 : Int} {r : (List (List Int)) × Int} (h : f7 F a0 a1 a2 = some r) : ACall Try.prog 7 [.d (.v (.int .i64 a0)), .d (.v (.int .i64 a1)), .d (.v (.int .i64 a2))] [] (.tup [.own 1 (r.1.map (cL 1 (cI .i64))), .d (.v (.int .i64 r.2))]) [] := by
  rw [f7] at h
  refine ACall.intro (N := 99) Try.func7 rfl rfl rfl rfl rfl fun e => ?_
  refine T_region [] [1, 2, 3] [] [(1, .d (.v (.int .i64 a1))), (2, .d (.v (.int .i64 a2))), (3, .box [.d (.v (.int .i64 a0))])] [] 3 (by kernel_rfl) (trivial) ?_
  refine T_seqk ?_
  refine T_block ?_
  obtain ⟨z5, hz6, h⟩ := lett_ok h
  refine T_region [(9, { rw := some (.d (.v (.bool z5))) })] [1, 2, 3, 13] [] [(1, .d (.v (.int .i64 a1))), (2, .d (.v (.int .i64 a2))), (3, .box [.d (.v (.int .i64 a0))]), (13, .d (.v (.bool (bif z5 then true else (decide (a1 > (64 : Int)))))))] [(3, ((((decide (a0 < (1 : Int))) == false) && true) = true → True)), (0, ((((decide (a0 < (1 : Int))) == false) && true) = true → True)), (2, ((((bif (decide (a0 < (1 : Int))) then true else (decide (a0 > (512 : Int)))) == false) && true) = true → True)), (0, ((((bif (decide (a0 < (1 : Int))) then true else (decide (a0 > (512 : Int)))) == false) && true) = true → True)), (0, (True) ∧ AV.d (.v (.bool (bif (bif (decide (a0 < (1 : Int))) then true else (decide (a0 > (512 : Int)))) then true else (decide (a1 < (2 : Int)))))) = .d (.v (.bool z5))), (1, (((z5 == false) && true) = true → True)), (0, (((z5 == false) && true) = true → True))] 2 (by kernel_rfl) (⟨(fun hg => trivial), (fun hg => trivial), (fun hg => trivial), (fun hg => trivial), ⟨trivial, (by subst hz6; rfl)⟩, (fun hg => trivial), (fun hg => trivial)⟩) ?_
  refine T_cond (bif z5 then true else (decide (a1 > (64 : Int)))) (by kernel_rfl) (fun hc => ?_) (fun hc => ?_)
  · have h := cond_tt hc h
    refine T_region [] [6, 7] [] [(6, .own 1 ([].map (cL 1 (cI .i64)))), (7, .d (.v (.int .i64 (3 : Int))))] [] 2 (by kernel_rfl) (trivial) ?_
    obtain hs := Option.some.inj h; subst hs
    refine T_ret fun a w hm => inBlock_ret (then_ret (T_return (fr' := [(6, .own 1 ([].map (cL 1 (cI .i64)))), (7, .d (.v (.int .i64 (3 : Int))))]) [6, 7] (by kernel_rfl) [.keep [6, 7]] (by kernel_rfl) (by kernel_rfl) (by kernel_rfl) (by show _ = _; kernel_rfl) (by exact trivial) a w hm))
  · have h := cond_ff hc h
    refine T_region [] [1, 2, 3, 28] [] [(1, .d (.v (.int .i64 a1))), (2, .d (.v (.int .i64 a2))), (3, .box [.d (.v (.int .i64 a0))]), (28, .d (.v (.bool (bif (a2 != (0 : Int)) then (a2 != (1 : Int)) else false))))] [(3, ((((a2 != (0 : Int)) == true) && true) = true → True)), (0, ((((a2 != (0 : Int)) == true) && true) = true → True))] 2 (by kernel_rfl) (⟨(fun hg => trivial), (fun hg => trivial)⟩) ?_
    refine T_cond (bif (a2 != (0 : Int)) then (a2 != (1 : Int)) else false) (by kernel_rfl) (fun hc => ?_) (fun hc => ?_)
    · have h := cond_tt hc h
      refine T_region [] [6, 7] [] [(6, .own 1 ([].map (cL 1 (cI .i64)))), (7, .d (.v (.int .i64 (14 : Int))))] [] 2 (by kernel_rfl) (trivial) ?_
      obtain hs := Option.some.inj h; subst hs
      refine T_ret fun a w hm => inBlock_ret (then_ret (T_return (fr' := [(6, .own 1 ([].map (cL 1 (cI .i64)))), (7, .d (.v (.int .i64 (14 : Int))))]) [6, 7] (by kernel_rfl) [.keep [6, 7]] (by kernel_rfl) (by kernel_rfl) (by kernel_rfl) (by show _ = _; kernel_rfl) (by exact trivial) a w hm))
    · have h := cond_ff hc h
      obtain ⟨z7, hz8, h⟩ := lett_ok h
      refine T_region [(11, { rw := some (.d (.v (.bool z7))) })] [1, 2, 3, 35] [] [(1, .d (.v (.int .i64 a1))), (2, .d (.v (.int .i64 a2))), (3, .box [.d (.v (.int .i64 a0))]), (35, .d (.v (.bool z7)))] [(1, (2 : Int) ≠ 0), (2, (((((a1.tmod (2 : Int)) == (1 : Int)) == false) && true) = true → True)), (0, (((((a1.tmod (2 : Int)) == (1 : Int)) == false) && true) = true → True)), (0, (((((a1.tmod (2 : Int)) == (1 : Int)) == false) && true) = true → True)), (0, ((((a2 == (1 : Int)) == true) && ((((a1.tmod (2 : Int)) == (1 : Int)) == false) && true)) = true → True)), (0, ((((a2 == (1 : Int)) == true) && ((((a1.tmod (2 : Int)) == (1 : Int)) == false) && true)) = true → (4 : Int) ≠ 0)), (0, ((((a2 == (1 : Int)) == true) && ((((a1.tmod (2 : Int)) == (1 : Int)) == false) && true)) = true → True)), (0, (((((a1.tmod (2 : Int)) == (1 : Int)) == false) && true) = true → True)), (0, (True) ∧ AV.d (.v (.bool (bif ((a1.tmod (2 : Int)) == (1 : Int)) then true else (bif (a2 == (1 : Int)) then ((a1.tmod (4 : Int)) != (0 : Int)) else false)))) = .d (.v (.bool z7)))] 1 (by kernel_rfl) (⟨(show (2 : Int) ≠ 0 by decide), (fun hg => trivial), (fun hg => trivial), (fun hg => trivial), (fun hg => trivial), (fun hg => (show (4 : Int) ≠ 0 by decide)), (fun hg => trivial), (fun hg => trivial), ⟨trivial, (by subst hz8; rfl)⟩⟩) ?_
      refine T_cond z7 (by kernel_rfl) (fun hc => ?_) (fun hc => ?_)
      · have h := cond_tt hc h
        refine T_region [] [6, 7] [] [(6, .own 1 ([].map (cL 1 (cI .i64)))), (7, .d (.v (.int .i64 (4 : Int))))] [] 2 (by kernel_rfl) (trivial) ?_
        obtain hs := Option.some.inj h; subst hs
        refine T_ret fun a w hm => inBlock_ret (then_ret (T_return (fr' := [(6, .own 1 ([].map (cL 1 (cI .i64)))), (7, .d (.v (.int .i64 (4 : Int))))]) [6, 7] (by kernel_rfl) [.keep [6, 7]] (by kernel_rfl) (by kernel_rfl) (by kernel_rfl) (by show _ = _; kernel_rfl) (by exact trivial) a w hm))
      · have h := cond_ff hc h
        refine T_skip fun a w hm => inBlock_norm (then_norm (((?_ : T Try.prog e 99 _ _ _) a w hm)))
        obtain ⟨hp9, h⟩ := chk_ok h
        refine T_region [] [1, 2, 3, 8] [] [(1, .d (.v (.int .i64 a1))), (2, .d (.v (.int .i64 a2))), (3, .box [.d (.v (.int .i64 a0))]), (8, .d (.v (.int .i64 (IntKind.i64.wrap ((IntKind.i64.wrap ((IntKind.i64.wrap (a0 + a1)) - (1 : Int))).tdiv a1)))))] [(5, a1 ≠ 0)] 1 (by kernel_rfl) (hp9) ?_
        refine T_seqk ?_
        obtain ⟨z12, hz13, h⟩ := lett_ok h
        refine T_region [(1, { rw := some (.d (.v (.bool z12))) })] [1, 2, 3, 8, 55] [] [(1, .d (.v (.int .i64 a1))), (2, .d (.v (.int .i64 a2))), (3, .box [.d (.v (.int .i64 a0))]), (8, .d (.v (.int .i64 (IntKind.i64.wrap ((IntKind.i64.wrap ((IntKind.i64.wrap (a0 + a1)) - (1 : Int))).tdiv a1))))), (55, .d (.v (.bool z12)))] [(1, (True) ∧ AV.d (.v (.bool (decide ((IntKind.i64.wrap ((IntKind.i64.wrap ((IntKind.i64.wrap (a0 + a1)) - (1 : Int))).tdiv a1)) > (64 : Int))))) = .d (.v (.bool z12)))] 0 (by kernel_rfl) (⟨trivial, (by subst hz13; rfl)⟩) ?_
        refine T_cond z12 (by kernel_rfl) (fun hc => ?_) (fun hc => ?_)
        · have h := cond_tt hc h
          refine T_region [] [6, 7] [] [(6, .own 1 ([].map (cL 1 (cI .i64)))), (7, .d (.v (.int .i64 (2 : Int))))] [] 2 (by kernel_rfl) (trivial) ?_
          obtain hs := Option.some.inj h; subst hs
          refine T_ret fun a w hm => then_ret (T_return (fr' := [(6, .own 1 ([].map (cL 1 (cI .i64)))), (7, .d (.v (.int .i64 (2 : Int))))]) [6, 7] (by kernel_rfl) [.keep [6, 7]] (by kernel_rfl) (by kernel_rfl) (by kernel_rfl) (by show _ = _; kernel_rfl) (by exact trivial) a w hm)
        · have h := cond_ff hc h
          refine T_skip fun a w hm => then_norm (((?_ : T Try.prog e 99 _ _ _) a w hm))
          refine T_region [] [1, 2, 3, 8, 9] [] [(1, .d (.v (.int .i64 a1))), (2, .d (.v (.int .i64 a2))), (3, .box [.d (.v (.int .i64 a0))]), (8, .d (.v (.int .i64 (IntKind.i64.wrap ((IntKind.i64.wrap ((IntKind.i64.wrap (a0 + a1)) - (1 : Int))).tdiv a1))))), (9, .own 1 ([].map (cL 1 (cI .i64))))] [] 1 (by kernel_rfl) (trivial) ?_
          refine T_region [] [1, 2, 3, 8, 9, 10] [] [(1, .d (.v (.int .i64 a1))), (2, .d (.v (.int .i64 a2))), (3, .box [.d (.v (.int .i64 a0))]), (8, .d (.v (.int .i64 (IntKind.i64.wrap ((IntKind.i64.wrap ((IntKind.i64.wrap (a0 + a1)) - (1 : Int))).tdiv a1))))), (9, .own 1 ([].map (cL 1 (cI .i64)))), (10, .clo 17 [.bp 3 0])] [] 2 (by kernel_rfl) (trivial) ?_
          refine T_seqk ?_
          refine T_region [] [1, 2, 3, 8, 9, 10, 57, 58] [] [(1, .d (.v (.int .i64 a1))), (2, .d (.v (.int .i64 a2))), (3, .box [.d (.v (.int .i64 a0))]), (8, .d (.v (.int .i64 (IntKind.i64.wrap ((IntKind.i64.wrap ((IntKind.i64.wrap (a0 + a1)) - (1 : Int))).tdiv a1))))), (9, .own 1 ([].map (cL 1 (cI .i64)))), (10, .clo 17 [.bp 3 0]), (57, .d (.v (.int .i64 (IntKind.i64.wrap ((IntKind.i64.wrap ((IntKind.i64.wrap (a0 + a1)) - (1 : Int))).tdiv a1))))), (58, .d (.v (.int .i64 (0 : Int))))] [] 2 (by kernel_rfl) (trivial) ?_
          refine T_joinct h (fun (p : (List (List Int))) => [(9, .own 1 (p.map (cL 1 (cI .i64))))]) (fun s h => ?_) (fun v352 h => ?_)
          · refine T_co [.keep [1, 2, 3, 8, 9, 10, 57, 58]] ((fun (p : Int × (List (List Int)) × Int) => [(1, .d (.v (.int .i64 a1))), (2, .d (.v (.int .i64 a2))), (3, .box [.d (.v (.int .i64 p.1))]), (8, .d (.v (.int .i64 (IntKind.i64.wrap ((IntKind.i64.wrap ((IntKind.i64.wrap (a0 + a1)) - (1 : Int))).tdiv a1))))), (9, .own 1 (p.2.1.map (cL 1 (cI .i64)))), (10, .clo 17 [.bp 3 0]), (57, .d (.v (.int .i64 (IntKind.i64.wrap ((IntKind.i64.wrap ((IntKind.i64.wrap (a0 + a1)) - (1 : Int))).tdiv a1))))), (58, .d (.v (.int .i64 p.2.2)))]) (a0, [], (0 : Int))) (by show _ = _; kernel_rfl) ?_
            refine T_block ?_
            refine T_loopF (ι := Int × (List (List Int)) × Int) (fun (p : Int × (List (List Int)) × Int) => [(1, .d (.v (.int .i64 a1))), (2, .d (.v (.int .i64 a2))), (3, .box [.d (.v (.int .i64 p.1))]), (8, .d (.v (.int .i64 (IntKind.i64.wrap ((IntKind.i64.wrap ((IntKind.i64.wrap (a0 + a1)) - (1 : Int))).tdiv a1))))), (9, .own 1 (p.2.1.map (cL 1 (cI .i64)))), (10, .clo 17 [.bp 3 0]), (57, .d (.v (.int .i64 (IntKind.i64.wrap ((IntKind.i64.wrap ((IntKind.i64.wrap (a0 + a1)) - (1 : Int))).tdiv a1))))), (58, .d (.v (.int .i64 p.2.2)))]) (fun n p => f7_L1 F a0 a1 a2 n p.1 p.2.1 p.2.2 = some s) (fun i hh => by simp [f7_L1] at hh) (fun n p h => ?_) F (a0, [], (0 : Int)) h
            obtain ⟨v393, v394, v395⟩ := p
            have h : f7_L1 F a0 a1 a2 (n + 1) v393 v394 v395 = some s := h
            rw [f7_L1] at h
            obtain ⟨z431, hz432, h⟩ := lett_ok h
            refine T_region [(0, { rw := some (.d (.v (.bool z431))) })] [1, 2, 3, 8, 9, 10, 57, 58, 59] [] [(1, .d (.v (.int .i64 a1))), (2, .d (.v (.int .i64 a2))), (3, .box [.d (.v (.int .i64 v393))]), (8, .d (.v (.int .i64 (IntKind.i64.wrap ((IntKind.i64.wrap ((IntKind.i64.wrap (a0 + a1)) - (1 : Int))).tdiv a1))))), (9, .own 1 (v394.map (cL 1 (cI .i64)))), (10, .clo 17 [.bp 3 0]), (57, .d (.v (.int .i64 (IntKind.i64.wrap ((IntKind.i64.wrap ((IntKind.i64.wrap (a0 + a1)) - (1 : Int))).tdiv a1))))), (58, .d (.v (.int .i64 v395))), (59, .d (.v (.bool z431)))] [(0, (True) ∧ AV.d (.v (.bool (decide (v395 < (IntKind.i64.wrap ((IntKind.i64.wrap ((IntKind.i64.wrap (a0 + a1)) - (1 : Int))).tdiv a1)))))) = .d (.v (.bool z431)))] 0 (by kernel_rfl) (⟨trivial, (by subst hz432; rfl)⟩) ?_
            refine T_seqk ?_
            refine T_cond z431 (by kernel_rfl) (fun hc => ?_) (fun hc => ?_)
            · have h := cond_tt hc h
              refine T_skip fun a w hm => then_norm (((?_ : T Try.prog e 99 _ _ _) a w hm))
              refine T_joinc h (fun (p : Int × (List (List Int))) => [(1, .d (.v (.int .i64 a1))), (2, .d (.v (.int .i64 a2))), (3, .box [.d (.v (.int .i64 p.1))]), (8, .d (.v (.int .i64 (IntKind.i64.wrap ((IntKind.i64.wrap ((IntKind.i64.wrap (a0 + a1)) - (1 : Int))).tdiv a1))))), (9, .own 1 (p.2.map (cL 1 (cI .i64)))), (10, .clo 17 [.bp 3 0]), (57, .d (.v (.int .i64 (IntKind.i64.wrap ((IntKind.i64.wrap ((IntKind.i64.wrap (a0 + a1)) - (1 : Int))).tdiv a1))))), (58, .d (.v (.int .i64 v395)))]) (fun s h => ?_) (fun s h => ?_)
              · refine T_block ?_
                refine T_region [] [1, 2, 3, 8, 9, 10, 11, 57, 58] [] [(1, .d (.v (.int .i64 a1))), (2, .d (.v (.int .i64 a2))), (3, .box [.d (.v (.int .i64 v393))]), (8, .d (.v (.int .i64 (IntKind.i64.wrap ((IntKind.i64.wrap ((IntKind.i64.wrap (a0 + a1)) - (1 : Int))).tdiv a1))))), (9, .own 1 (v394.map (cL 1 (cI .i64)))), (10, .clo 17 [.bp 3 0]), (11, .d (.v (.int .i64 v395))), (57, .d (.v (.int .i64 (IntKind.i64.wrap ((IntKind.i64.wrap ((IntKind.i64.wrap (a0 + a1)) - (1 : Int))).tdiv a1))))), (58, .d (.v (.int .i64 v395)))] [] 2 (by kernel_rfl) (trivial) ?_
                refine T_seqk ?_
                refine T_region [] [1, 2, 3, 8, 9, 10, 11, 57, 58, 62] [] [(1, .d (.v (.int .i64 a1))), (2, .d (.v (.int .i64 a2))), (3, .box [.d (.v (.int .i64 v393))]), (8, .d (.v (.int .i64 (IntKind.i64.wrap ((IntKind.i64.wrap ((IntKind.i64.wrap (a0 + a1)) - (1 : Int))).tdiv a1))))), (9, .own 1 (v394.map (cL 1 (cI .i64)))), (10, .clo 17 [.bp 3 0]), (11, .d (.v (.int .i64 v395))), (57, .d (.v (.int .i64 (IntKind.i64.wrap ((IntKind.i64.wrap ((IntKind.i64.wrap (a0 + a1)) - (1 : Int))).tdiv a1))))), (58, .d (.v (.int .i64 v395))), (62, .d (.v (.bool (a2 == (0 : Int)))))] [] 2 (by kernel_rfl) (trivial) ?_
                refine T_cond (a2 == (0 : Int)) (by kernel_rfl) (fun hc => ?_) (fun hc => ?_)
                · have h := cond_tt hc h
                  obtain ⟨y454, hy455, h⟩ := call_ok h
                  obtain ⟨hp456, h⟩ := chk_ok h
                  refine T_region [(7, { res := .own 1 (y454.1.map (cI .i64)), vout := [[.d (.v (.int .i64 y454.2))]], xs := [3] }), (8, { frz := [(70, 0)], es := some (([y454.1]).map (cL 1 (cI .i64))) }), (9, { es := some ((v394 ++ ([y454.1])).map (cL 1 (cI .i64))) })] [1, 2, 3, 8, 9, 10, 57, 58] [] [(1, .d (.v (.int .i64 a1))), (2, .d (.v (.int .i64 a2))), (3, .box [.d (.v (.int .i64 y454.2))]), (8, .d (.v (.int .i64 (IntKind.i64.wrap ((IntKind.i64.wrap ((IntKind.i64.wrap (a0 + a1)) - (1 : Int))).tdiv a1))))), (9, .own 1 ((v394 ++ ([y454.1])).map (cL 1 (cI .i64)))), (10, .clo 17 [.bp 3 0]), (57, .d (.v (.int .i64 (IntKind.i64.wrap ((IntKind.i64.wrap ((IntKind.i64.wrap (a0 + a1)) - (1 : Int))).tdiv a1))))), (58, .d (.v (.int .i64 v395)))] [(7, ACall Try.prog 17 [.d (.v (.slice none 0 0)), .d (.v (.int .i64 (IntKind.i64.wrap ((IntKind.i64.wrap (v395 * a1)) + (1 : Int))))), .d (.v (.int .i64 a1)), .bp 1000000 0] [[.d (.v (.int .i64 v393))]] (.own 1 (y454.1.map (cI .i64))) [[.d (.v (.int .i64 y454.2))]]), (0, (([y454.1]).map (cL 1 (cI .i64))) = (([y454.1]).map (cL 1 (cI .i64)))), (0, (v394.map (cL 1 (cI .i64))).length + (([y454.1]).map (cL 1 (cI .i64))).length ≤ 4294967296 ∧ (v394.map (cL 1 (cI .i64))) ++ (([y454.1]).map (cL 1 (cI .i64))) = ((v394 ++ ([y454.1])).map (cL 1 (cI .i64))))] 1 (by kernel_rfl) (⟨(ACall.nilArgOwn 0 (f17_ok hy455) rfl rfl (by decide) rfl), rfl, app_ok (cL 1 (cI .i64)) hp456⟩) ?_
                  obtain hs := Option.some.inj h; subst hs
                  refine T_exit fun a w hm => then_exit (inBlock_exit (then_norm (hm.co (cs := [.keep [1, 2, 3, 8, 9, 10, 57, 58]]) (by show _ = _; kernel_rfl))))
                · have h := cond_ff hc h
                  refine T_skip fun a w hm => then_norm (((?_ : T Try.prog e 99 _ _ _) a w hm))
                  refine T_region [] [1, 2, 3, 8, 9, 10, 11, 12, 57, 58] [] [(1, .d (.v (.int .i64 a1))), (2, .d (.v (.int .i64 a2))), (3, .box [.d (.v (.int .i64 v393))]), (8, .d (.v (.int .i64 (IntKind.i64.wrap ((IntKind.i64.wrap ((IntKind.i64.wrap (a0 + a1)) - (1 : Int))).tdiv a1))))), (9, .own 1 (v394.map (cL 1 (cI .i64)))), (10, .clo 17 [.bp 3 0]), (11, .d (.v (.int .i64 v395))), (12, .d (.v (.int .i64 (IntKind.i64.wrap (a1.tdiv (2 : Int)))))), (57, .d (.v (.int .i64 (IntKind.i64.wrap ((IntKind.i64.wrap ((IntKind.i64.wrap (a0 + a1)) - (1 : Int))).tdiv a1))))), (58, .d (.v (.int .i64 v395)))] [(1, (2 : Int) ≠ 0)] 1 (by kernel_rfl) ((show (2 : Int) ≠ 0 by decide)) ?_
                  obtain ⟨y457, hy458, h⟩ := call_ok h
                  obtain ⟨z459, hz460, h⟩ := lett_ok h
                  obtain ⟨z461, hz462, h⟩ := lett_ok h
                  obtain ⟨y463, hy464, h⟩ := call_ok h
                  obtain ⟨hp465, h⟩ := chk_ok h
                  obtain hs := Option.some.inj h; subst hs
                  refine T_region_end [(8, { res := .own 1 (y457.1.map (cI .i64)), vout := [[.d (.v (.int .i64 y457.2))]], xs := [3] }), (11, { rw := some (.d (.v (.int .i64 z459))) }), (16, { rw := some (.d (.v (.int .i64 z461))) }), (19, { res := .own 1 (y463.1.map (cI .i64)), vout := [[.d (.v (.int .i64 y463.2))]], xs := [3], take := [0] }), (20, { frz := [(94, 0)], es := some (([y463.1]).map (cL 1 (cI .i64))) }), (21, { es := some ((v394 ++ ([y463.1])).map (cL 1 (cI .i64))) })] [1, 2, 3, 8, 9, 10, 57, 58] [] [(1, .d (.v (.int .i64 a1))), (2, .d (.v (.int .i64 a2))), (3, .box [.d (.v (.int .i64 y463.2))]), (8, .d (.v (.int .i64 (IntKind.i64.wrap ((IntKind.i64.wrap ((IntKind.i64.wrap (a0 + a1)) - (1 : Int))).tdiv a1))))), (9, .own 1 ((v394 ++ ([y463.1])).map (cL 1 (cI .i64)))), (10, .clo 17 [.bp 3 0]), (57, .d (.v (.int .i64 (IntKind.i64.wrap ((IntKind.i64.wrap ((IntKind.i64.wrap (a0 + a1)) - (1 : Int))).tdiv a1))))), (58, .d (.v (.int .i64 v395)))] [(8, ACall Try.prog 17 [.d (.v (.slice none 0 0)), .d (.v (.int .i64 (IntKind.i64.wrap ((IntKind.i64.wrap (v395 * (IntKind.i64.wrap (a1.tdiv (2 : Int))))) + (1 : Int))))), .d (.v (.int .i64 (IntKind.i64.wrap (a1.tdiv (2 : Int))))), .bp 1000000 0] [[.d (.v (.int .i64 v393))]] (.own 1 (y457.1.map (cI .i64))) [[.d (.v (.int .i64 y457.2))]]), (2, (True) ∧ AV.d (.v (.int .i64 (IntKind.i64.wrap ((IntKind.i64.wrap ((IntKind.i64.wrap ((IntKind.i64.wrap (a0 + a1)) - (1 : Int))).tdiv a1)) * a1)))) = .d (.v (.int .i64 z459))), (4, (True) ∧ AV.d (.v (.int .i64 (IntKind.i64.wrap (z459 - (IntKind.i64.wrap ((IntKind.i64.wrap (v395 + (1 : Int))) * (IntKind.i64.wrap (a1.tdiv (2 : Int))))))))) = .d (.v (.int .i64 z461))), (2, ACall Try.prog 17 [.own 1 (y457.1.map (cI .i64)), .d (.v (.int .i64 (IntKind.i64.wrap (z461 + (1 : Int))))), .d (.v (.int .i64 (IntKind.i64.wrap (a1.tdiv (2 : Int))))), .bp 1000000 0] [[.d (.v (.int .i64 y457.2))]] (.own 1 (y463.1.map (cI .i64))) [[.d (.v (.int .i64 y463.2))]]), (0, (([y463.1]).map (cL 1 (cI .i64))) = (([y463.1]).map (cL 1 (cI .i64)))), (0, (v394.map (cL 1 (cI .i64))).length + (([y463.1]).map (cL 1 (cI .i64))).length ≤ 4294967296 ∧ (v394.map (cL 1 (cI .i64))) ++ (([y463.1]).map (cL 1 (cI .i64))) = ((v394 ++ ([y463.1])).map (cL 1 (cI .i64))))] 1 (by kernel_rfl) (⟨(ACall.nilArgOwn 0 (f17_ok hy458) rfl rfl (by decide) rfl), ⟨trivial, (by subst hz460; rfl)⟩, ⟨trivial, (by subst hz462; rfl)⟩, f17_ok hy464, rfl, app_ok (cL 1 (cI .i64)) hp465⟩) fun a w hm => inBlock_norm (then_norm (hm.co (cs := [.keep [1, 2, 3, 8, 9, 10, 57, 58]]) (by show _ = _; kernel_rfl)))
              · obtain ⟨v448, v449⟩ := s
                try dsimp only at h
                refine T_region_end [] [1, 2, 3, 8, 9, 10, 57, 58] [] [(1, .d (.v (.int .i64 a1))), (2, .d (.v (.int .i64 a2))), (3, .box [.d (.v (.int .i64 v448))]), (8, .d (.v (.int .i64 (IntKind.i64.wrap ((IntKind.i64.wrap ((IntKind.i64.wrap (a0 + a1)) - (1 : Int))).tdiv a1))))), (9, .own 1 (v449.map (cL 1 (cI .i64)))), (10, .clo 17 [.bp 3 0]), (57, .d (.v (.int .i64 (IntKind.i64.wrap ((IntKind.i64.wrap ((IntKind.i64.wrap (a0 + a1)) - (1 : Int))).tdiv a1))))), (58, .d (.v (.int .i64 (IntKind.i64.wrap (v395 + (1 : Int))))))] [] 2 (by kernel_rfl) (trivial) fun a w hm => then_norm (⟨(v448, v449, IntKind.i64.wrap (v395 + (1 : Int))), h, hm.co (cs := [.keep [1, 2, 3, 8, 9, 10, 57, 58]]) (by show _ = _; kernel_rfl)⟩)
            · have h := cond_ff hc h
              obtain hs := Option.some.inj h; subst hs
              refine T_exit fun a w hm => then_exit (then_exit (inBlock_exit (then_norm (hm.co (cs := [.keep [9]]) (by show _ = _; kernel_rfl)))))
          · skip
            refine fun a w hm => then_norm (((?_ : T Try.prog e 99 _ _ _) a w hm))
            refine T_region [] [6, 7, 9] [] [(6, .vw (9, 0)), (7, .d (.v (.int .i64 (0 : Int)))), (9, .own 1 (v352.map (cL 1 (cI .i64))))] [] 3 (by kernel_rfl) (trivial) ?_
            obtain hs := Option.some.inj h; subst hs
            refine T_ret fun a w hm => T_return (fr' := [(6, .own 1 (v352.map (cL 1 (cI .i64)))), (7, .d (.v (.int .i64 (0 : Int))))]) [6, 7] (by kernel_rfl) [.claim 6, .keep [6, 7]] (by kernel_rfl) (by kernel_rfl) (by kernel_rfl) (by show _ = _; kernel_rfl) (by exact trivial) a w hm

theorem f11_ok {F : Nat} {a0 : List Int} {a1 : List Int} {r : Bool} (h : f11 F a0 a1 = some r) : ACall Try.prog 11 [.d (.sl 1 (a0.map (cI .i64))), .d (.sl 1 (a1.map (cI .i64)))] [] (.d (.v (.bool r))) [] := by
  rw [f11] at h
  refine ACall.intro (N := 26) Try.func11 rfl rfl rfl rfl rfl fun e => ?_
  refine T_region [] [0, 1] [] [(0, .d (.sl 1 (a0.map (cI .i64)))), (1, .d (.sl 1 (a1.map (cI .i64))))] [] 1 (by kernel_rfl) (trivial) ?_
  refine T_seqk ?_
  refine T_region [(1, { rw := some (.d (.v (.int .i64 (a0.length : Int)))) }), (3, { rw := some (.d (.v (.int .i64 (a1.length : Int)))) })] [0, 1, 10] [] [(0, .d (.sl 1 (a0.map (cI .i64)))), (1, .d (.sl 1 (a1.map (cI .i64)))), (10, .d (.v (.bool ((a0.length : Int) != (a1.length : Int)))))] [(1, True ∧ AV.d (.v (.int .i64 ((a0.map (cI .i64)).length : Int))) = .d (.v (.int .i64 (a0.length : Int)))), (1, True ∧ AV.d (.v (.int .i64 ((a1.map (cI .i64)).length : Int))) = .d (.v (.int .i64 (a1.length : Int))))] 1 (by kernel_rfl) (⟨len_ok (cI .i64), len_ok (cI .i64)⟩) ?_
  refine T_cond ((a0.length : Int) != (a1.length : Int)) (by kernel_rfl) (fun hc => ?_) (fun hc => ?_)
  · have h := cond_tt hc h
    refine T_region [] [4] [] [(4, .d (.v (.bool false)))] [] 1 (by kernel_rfl) (trivial) ?_
    obtain hs := Option.some.inj h; subst hs
    refine T_ret fun a w hm => then_ret (T_return (fr' := [(4, .d (.v (.bool false)))]) [4] (by kernel_rfl) [.keep [4]] (by kernel_rfl) (by kernel_rfl) (by kernel_rfl) (by show _ = _; kernel_rfl) (by exact trivial) a w hm)
  · have h := cond_ff hc h
    refine T_skip fun a w hm => then_norm (((?_ : T Try.prog e 26 _ _ _) a w hm))
    refine T_seqk ?_
    refine T_region [(1, { rw := some (.d (.v (.int .i64 (a0.length : Int)))) })] [0, 1, 12, 13] [] [(0, .d (.sl 1 (a0.map (cI .i64)))), (1, .d (.sl 1 (a1.map (cI .i64)))), (12, .d (.v (.int .i64 (a0.length : Int)))), (13, .d (.v (.int .i64 (0 : Int))))] [(1, True ∧ AV.d (.v (.int .i64 ((a0.map (cI .i64)).length : Int))) = .d (.v (.int .i64 (a0.length : Int))))] 1 (by kernel_rfl) (len_ok (cI .i64)) ?_
    refine T_joinEt h (fun (p : Unit) => []) (fun s h hk41 => ?_) (fun s h => ?_)
    · refine T_co [.keep [0, 1, 12, 13]] ((fun (p : Int) => [(0, .d (.sl 1 (a0.map (cI .i64)))), (1, .d (.sl 1 (a1.map (cI .i64)))), (12, .d (.v (.int .i64 (a0.length : Int)))), (13, .d (.v (.int .i64 p)))]) (0 : Int)) (by show _ = _; kernel_rfl) ?_
      refine T_block ?_
      refine T_loopF (ι := Int) (fun (p : Int) => [(0, .d (.sl 1 (a0.map (cI .i64)))), (1, .d (.sl 1 (a1.map (cI .i64)))), (12, .d (.v (.int .i64 (a0.length : Int)))), (13, .d (.v (.int .i64 p)))]) (fun n p => f11_L0 F a0 a1 n p = some s) (fun i hh => by simp [f11_L0] at hh) (fun n v46 h => ?_) F (0 : Int) h
      have h : f11_L0 F a0 a1 (n + 1) v46 = some s := h
      rw [f11_L0] at h
      refine T_region [] [0, 1, 12, 13, 14] [] [(0, .d (.sl 1 (a0.map (cI .i64)))), (1, .d (.sl 1 (a1.map (cI .i64)))), (12, .d (.v (.int .i64 (a0.length : Int)))), (13, .d (.v (.int .i64 v46))), (14, .d (.v (.bool (decide (v46 < (a0.length : Int))))))] [] 1 (by kernel_rfl) (trivial) ?_
      refine T_seqk ?_
      refine T_cond (decide (v46 < (a0.length : Int))) (by kernel_rfl) (fun hc => ?_) (fun hc => ?_)
      · have h := cond_tt hc h
        refine T_skip fun a w hm => then_norm (((?_ : T Try.prog e 26 _ _ _) a w hm))
        refine T_seqk ?_
        refine T_block ?_
        refine T_region [] [0, 1, 5, 12, 13] [] [(0, .d (.sl 1 (a0.map (cI .i64)))), (1, .d (.sl 1 (a1.map (cI .i64)))), (5, .d (.v (.int .i64 v46))), (12, .d (.v (.int .i64 (a0.length : Int)))), (13, .d (.v (.int .i64 v46)))] [] 2 (by kernel_rfl) (trivial) ?_
        obtain ⟨hp53, h⟩ := chk_ok h
        obtain ⟨hp54, h⟩ := chk_ok h
        refine T_draw mixed [(2, { cs := (cI .i64) (a0.getD v46.toNat 0) }), (6, { cs := (cI .i64) (a1.getD v46.toNat 0) })] [0, 1, 12, 13, 24] [] [(0, .d (.sl 1 (a0.map (cI .i64)))), (1, .d (.sl 1 (a1.map (cI .i64)))), (12, .d (.v (.int .i64 (a0.length : Int)))), (13, .d (.v (.int .i64 v46))), (24, .d (.v (.bool ((a0.getD v46.toNat 0) != (a1.getD v46.toNat 0)))))] [(2, 0 ≤ v46 ∧ (a0.map (cI .i64))[v46.toNat]? = some ((cI .i64) (a0.getD v46.toNat 0))), (3, 0 ≤ v46 ∧ (a1.map (cI .i64))[v46.toNat]? = some ((cI .i64) (a1.getD v46.toNat 0)))] 2 (by kernel_rfl) (⟨idx_ok (d := 0) (cI .i64) hp53, idx_ok (d := 0) (cI .i64) hp54⟩) ?_
        refine T_cond ((a0.getD v46.toNat 0) != (a1.getD v46.toNat 0)) (by kernel_rfl) (fun hc => ?_) (fun hc => ?_)
        · have h := cond_tt hc h
          refine T_region [] [4] [] [(4, .d (.v (.bool false)))] [] 1 (by kernel_rfl) (trivial) ?_
          obtain hs := Option.some.inj h; subst hs
          have h := callE_esc hk41
          obtain hs := Option.some.inj h; subst hs
          refine T_ret fun a w hm => inBlock_ret (then_ret (then_ret (inBlock_ret (then_ret (then_ret (T_return (fr' := [(4, .d (.v (.bool false)))]) [4] (by kernel_rfl) [.keep [4]] (by kernel_rfl) (by kernel_rfl) (by kernel_rfl) (by show _ = _; kernel_rfl) (by exact trivial) a w hm))))))
        · have h := cond_ff hc h
          refine T_skip fun a w hm => inBlock_norm (then_norm (((?_ : T Try.prog e 26 _ _ _) a w hm)))
          refine T_region_end [] [0, 1, 12, 13] [] [(0, .d (.sl 1 (a0.map (cI .i64)))), (1, .d (.sl 1 (a1.map (cI .i64)))), (12, .d (.v (.int .i64 (a0.length : Int)))), (13, .d (.v (.int .i64 (IntKind.i64.wrap (v46 + (1 : Int))))))] [] 2 (by kernel_rfl) (trivial) fun a w hm => then_norm (⟨IntKind.i64.wrap (v46 + (1 : Int)), h, hm.co (cs := [.keep [0, 1, 12, 13]]) (by show _ = _; kernel_rfl)⟩)
      · have h := cond_ff hc h
        obtain hs := Option.some.inj h; subst hs
        refine T_exit fun a w hm => then_exit (then_exit (inBlock_exit (then_norm (⟨_, rfl, hm.co (cs := [.keep []]) (by show _ = _; kernel_rfl)⟩))))
    · skip
      refine fun a w hm => then_norm (((?_ : T Try.prog e 26 _ _ _) a w hm))
      refine T_region [] [4] [] [(4, .d (.v (.bool true)))] [] 1 (by kernel_rfl) (trivial) ?_
      obtain hs := Option.some.inj h; subst hs
      refine T_ret fun a w hm => T_return (fr' := [(4, .d (.v (.bool true)))]) [4] (by kernel_rfl) [.keep [4]] (by kernel_rfl) (by kernel_rfl) (by kernel_rfl) (by show _ = _; kernel_rfl) (by exact trivial) a w hm

theorem f6_ok {F : Nat}  {r : Bool} (h : f6 F  = some r) : ACall Try.prog 6 [] [] (.d (.v (.bool r))) [] := by
  rw [f6] at h
  refine ACall.intro (N := 28) Try.func6 rfl rfl rfl rfl rfl fun e => ?_
  refine T_region [] [] [] [] [] 1 (by kernel_rfl) (trivial) ?_
  obtain ⟨y1, hy2, h⟩ := call_ok h
  refine T_region [(0, { res := .tup [.own 1 (y1.1.map (cL 1 (cI .i64))), .d (.v (.int .i64 y1.2))] })] [1, 2] [] [(1, .own 1 (y1.1.map (cL 1 (cI .i64)))), (2, .d (.v (.int .i64 y1.2)))] [(0, ACall Try.prog 7 [.d (.v (.int .i64 (6 : Int))), .d (.v (.int .i64 (4 : Int))), .d (.v (.int .i64 (1 : Int)))] [] (.tup [.own 1 (y1.1.map (cL 1 (cI .i64))), .d (.v (.int .i64 y1.2))]) [])] 5 (by kernel_rfl) (f7_ok hy2) ?_
  obtain ⟨hp3, h⟩ := chk_ok h
  obtain ⟨y4, hy5, h⟩ := call_ok h
  obtain ⟨z6, hz7, h⟩ := lett_ok h
  obtain ⟨hp8, h⟩ := chk_ok h
  obtain ⟨y9, hy10, h⟩ := call_ok h
  refine T_region [(4, { rw := some (.d (.v (.int .i64 (y1.1.length : Int)))) }), (10, { cs := (cL 1 (cI .i64)) (y1.1.getD (0 : Int).toNat []) }), (11, { es := some (([(1 : Int), (2 : Int), (0 : Int), (0 : Int)]).map (cI .i64)) }), (12, { res := .d (.v (.bool y4)) }), (13, { rw := some (.d (.v (.bool z6))) }), (17, { cs := (cL 1 (cI .i64)) (y1.1.getD (1 : Int).toNat []) }), (18, { es := some (([(3 : Int), (4 : Int), (5 : Int), (6 : Int)]).map (cI .i64)) }), (19, { res := .d (.v (.bool y9)) })] [0] [] [(0, .d (.v (.bool (bif z6 then y9 else false))))] [(3, ((((y1.2 == (0 : Int)) == true) && true) = true → True)), (0, ((((y1.2 == (0 : Int)) == true) && true) = true → True ∧ AV.d (.v (.int .i64 ((y1.1.map (cL 1 (cI .i64))).length : Int))) = .d (.v (.int .i64 (y1.1.length : Int))))), (0, ((((y1.2 == (0 : Int)) == true) && true) = true → True)), (2, ((((bif (y1.2 == (0 : Int)) then ((y1.1.length : Int) == (2 : Int)) else false) == true) && true) = true → True)), (0, ((((bif (y1.2 == (0 : Int)) then ((y1.1.length : Int) == (2 : Int)) else false) == true) && true) = true → 0 ≤ (0 : Int) ∧ (0 : Int) < (y1.1.map (cL 1 (cI .i64))).length)), (0, ((((bif (y1.2 == (0 : Int)) then ((y1.1.length : Int) == (2 : Int)) else false) == true) && true) = true → (y1.1.map (cL 1 (cI .i64)))[(0 : Int).toNat]? = some ((cL 1 (cI .i64)) (y1.1.getD (0 : Int).toNat [])))), (0, ((((bif (y1.2 == (0 : Int)) then ((y1.1.length : Int) == (2 : Int)) else false) == true) && true) = true → (([(1 : Int), (2 : Int), (0 : Int), (0 : Int)]).map (cI .i64)) = (([(1 : Int), (2 : Int), (0 : Int), (0 : Int)]).map (cI .i64)))), (0, ((((bif (y1.2 == (0 : Int)) then ((y1.1.length : Int) == (2 : Int)) else false) == true) && true) = true → ACall Try.prog 11 [.d (.sl 1 ((y1.1.getD (0 : Int).toNat []).map (cI .i64))), .d (.sl 1 (([(1 : Int), (2 : Int), (0 : Int), (0 : Int)]).map (cI .i64)))] [] (.d (.v (.bool y4))) [])), (0, (True) ∧ AV.d (.v (.bool (bif (bif (y1.2 == (0 : Int)) then ((y1.1.length : Int) == (2 : Int)) else false) then y4 else false))) = .d (.v (.bool z6))), (1, (((z6 == true) && true) = true → True)), (0, (((z6 == true) && true) = true → 0 ≤ (1 : Int) ∧ (1 : Int) < (y1.1.map (cL 1 (cI .i64))).length)), (0, (((z6 == true) && true) = true → (y1.1.map (cL 1 (cI .i64)))[(1 : Int).toNat]? = some ((cL 1 (cI .i64)) (y1.1.getD (1 : Int).toNat [])))), (0, (((z6 == true) && true) = true → (([(3 : Int), (4 : Int), (5 : Int), (6 : Int)]).map (cI .i64)) = (([(3 : Int), (4 : Int), (5 : Int), (6 : Int)]).map (cI .i64)))), (0, (((z6 == true) && true) = true → ACall Try.prog 11 [.d (.sl 1 ((y1.1.getD (1 : Int).toNat []).map (cI .i64))), .d (.sl 1 (([(3 : Int), (4 : Int), (5 : Int), (6 : Int)]).map (cI .i64)))] [] (.d (.v (.bool y9))) []))] 2 (by kernel_rfl) (⟨(fun hg => trivial), (fun hg => len_ok (cL 1 (cI .i64))), (fun hg => trivial), (fun hg => trivial), (fun hg => own_idx (cL 1 (cI .i64)) (hp3 hg)), (fun hg => (idx_ok (d := []) (cL 1 (cI .i64)) (hp3 hg)).2), (fun hg => rfl), (fun hg => f11_ok (gcall_ok hg hy5)), ⟨trivial, (by subst hz7; rfl)⟩, (fun hg => trivial), (fun hg => own_idx (cL 1 (cI .i64)) (hp8 hg)), (fun hg => (idx_ok (d := []) (cL 1 (cI .i64)) (hp8 hg)).2), (fun hg => rfl), (fun hg => f11_ok (gcall_ok hg hy10))⟩) ?_
  obtain hs := Option.some.inj h; subst hs
  refine T_ret fun a w hm => T_return (fr' := [(0, .d (.v (.bool (bif z6 then y9 else false))))]) [0] (by kernel_rfl) [.keep [0]] (by kernel_rfl) (by kernel_rfl) (by kernel_rfl) (by show _ = _; kernel_rfl) (by exact trivial) a w hm

theorem f8_ok {F : Nat} {a0 : Int} {a1 : Int} {r : Int} (h : f8 F a0 a1 = some r) : ACall Try.prog 8 [.d (.v (.int .i64 a0)), .d (.v (.int .i64 a1))] [] (.d (.v (.int .i64 r))) [] := by
  rw [f8] at h
  refine ACall.intro (N := 17) Try.func8 rfl rfl rfl rfl rfl fun e => ?_
  refine T_region [] [0, 1] [] [(0, .d (.v (.int .i64 a0))), (1, .d (.v (.int .i64 a1)))] [] 1 (by kernel_rfl) (trivial) ?_
  obtain ⟨hp1, h⟩ := chk_ok h
  refine T_region [] [0, 1, 5] [] [(0, .d (.v (.int .i64 a0))), (1, .d (.v (.int .i64 a1))), (5, .d (.v (.int .i64 (IntKind.i64.wrap (a0.tdiv a1)))))] [(2, a1 ≠ 0)] 1 (by kernel_rfl) (hp1) ?_
  refine T_joinc h (fun (p : Int) => [(5, .d (.v (.int .i64 p)))]) (fun s h => ?_) (fun v2 h => ?_)
  · refine T_region [] [5, 13] [] [(5, .d (.v (.int .i64 (IntKind.i64.wrap (a0.tdiv a1))))), (13, .d (.v (.bool (decide ((IntKind.i64.wrap ((IntKind.i64.wrap (a0.tdiv a1)) * a1)) < a0)))))] [] 5 (by kernel_rfl) (trivial) ?_
    refine T_cond (decide ((IntKind.i64.wrap ((IntKind.i64.wrap (a0.tdiv a1)) * a1)) < a0)) (by kernel_rfl) (fun hc => ?_) (fun hc => ?_)
    · have h := cond_tt hc h
      obtain hs := Option.some.inj h; subst hs
      refine T_region_end [] [5] [] [(5, .d (.v (.int .i64 (IntKind.i64.wrap ((IntKind.i64.wrap (a0.tdiv a1)) + (1 : Int))))))] [] 3 (by kernel_rfl) (trivial) fun a w hm => then_norm (hm.co (cs := [.keep [5]]) (by show _ = _; kernel_rfl))
    · have h := cond_ff hc h
      obtain hs := Option.some.inj h; subst hs
      refine T_skip fun a w hm => then_norm (hm.co (cs := [.keep [5]]) (by show _ = _; kernel_rfl))
  · skip
    refine T_region [] [4] [] [(4, .d (.v (.int .i64 v2)))] [] 2 (by kernel_rfl) (trivial) ?_
    obtain hs := Option.some.inj h; subst hs
    refine T_ret fun a w hm => T_return (fr' := [(4, .d (.v (.int .i64 v2)))]) [4] (by kernel_rfl) [.keep [4]] (by kernel_rfl) (by kernel_rfl) (by kernel_rfl) (by show _ = _; kernel_rfl) (by exact trivial) a w hm

theorem f9_ok {F : Nat} {a0 : List (List Int)} {a1 : List Int} {a2 : Bool} {r : (List Int)} (h : f9 F a0 a1 a2 = some r) : ACall Try.prog 9 [.d (.sl 1 (a0.map (cL 1 (cI .i64)))), .d (.sl 1 (a1.map (cI .i64))), .d (.v (.bool a2))] [] (.own 1 (r.map (cI .i64))) [] := by
  rw [f9] at h
  refine ACall.intro (N := 59) Try.func9 rfl rfl rfl rfl rfl fun e => ?_
  refine T_region [] [0, 1, 2] [] [(0, .d (.sl 1 (a0.map (cL 1 (cI .i64))))), (1, .d (.sl 1 (a1.map (cI .i64)))), (2, .d (.v (.bool a2)))] [] 1 (by kernel_rfl) (trivial) ?_
  refine T_region [] [0, 1, 2, 7] [] [(0, .d (.sl 1 (a0.map (cL 1 (cI .i64))))), (1, .d (.sl 1 (a1.map (cI .i64)))), (2, .d (.v (.bool a2))), (7, .own 1 ([].map (cI .i64)))] [] 1 (by kernel_rfl) (trivial) ?_
  refine T_seqk ?_
  refine T_region [(1, { rw := some (.d (.v (.int .i64 (a1.length : Int)))) })] [0, 1, 2, 7, 13, 14, 15] [] [(0, .d (.sl 1 (a0.map (cL 1 (cI .i64))))), (1, .d (.sl 1 (a1.map (cI .i64)))), (2, .d (.v (.bool a2))), (7, .own 1 ([].map (cI .i64))), (13, .d (.sl 1 (a1.map (cI .i64)))), (14, .d (.v (.int .i64 (a1.length : Int)))), (15, .d (.v (.int .i64 (0 : Int))))] [(1, True ∧ AV.d (.v (.int .i64 ((a1.map (cI .i64)).length : Int))) = .d (.v (.int .i64 (a1.length : Int))))] 1 (by kernel_rfl) (len_ok (cI .i64)) ?_
  refine T_joinct h (fun (p : (List Int)) => [(0, .d (.sl 1 (a0.map (cL 1 (cI .i64))))), (1, .d (.sl 1 (a1.map (cI .i64)))), (2, .d (.v (.bool a2))), (7, .own 1 (p.map (cI .i64)))]) (fun s h => ?_) (fun v207 h => ?_)
  · refine T_co [.keep [0, 1, 2, 7, 13, 14, 15]] ((fun (p : (List Int) × Int) => [(0, .d (.sl 1 (a0.map (cL 1 (cI .i64))))), (1, .d (.sl 1 (a1.map (cI .i64)))), (2, .d (.v (.bool a2))), (7, .own 1 (p.1.map (cI .i64))), (13, .d (.sl 1 (a1.map (cI .i64)))), (14, .d (.v (.int .i64 (a1.length : Int)))), (15, .d (.v (.int .i64 p.2)))]) ([], (0 : Int))) (by show _ = _; kernel_rfl) ?_
    refine T_block ?_
    refine T_loopF (ι := (List Int) × Int) (fun (p : (List Int) × Int) => [(0, .d (.sl 1 (a0.map (cL 1 (cI .i64))))), (1, .d (.sl 1 (a1.map (cI .i64)))), (2, .d (.v (.bool a2))), (7, .own 1 (p.1.map (cI .i64))), (13, .d (.sl 1 (a1.map (cI .i64)))), (14, .d (.v (.int .i64 (a1.length : Int)))), (15, .d (.v (.int .i64 p.2)))]) (fun n p => f9_L0 F a0 a1 a2 n p.1 p.2 = some s) (fun i hh => by simp [f9_L0] at hh) (fun n p h => ?_) F ([], (0 : Int)) h
    obtain ⟨v231, v232⟩ := p
    have h : f9_L0 F a0 a1 a2 (n + 1) v231 v232 = some s := h
    rw [f9_L0] at h
    refine T_region [] [0, 1, 2, 7, 13, 14, 15, 16] [] [(0, .d (.sl 1 (a0.map (cL 1 (cI .i64))))), (1, .d (.sl 1 (a1.map (cI .i64)))), (2, .d (.v (.bool a2))), (7, .own 1 (v231.map (cI .i64))), (13, .d (.sl 1 (a1.map (cI .i64)))), (14, .d (.v (.int .i64 (a1.length : Int)))), (15, .d (.v (.int .i64 v232))), (16, .d (.v (.bool (decide (v232 < (a1.length : Int))))))] [] 1 (by kernel_rfl) (trivial) ?_
    refine T_seqk ?_
    refine T_cond (decide (v232 < (a1.length : Int))) (by kernel_rfl) (fun hc => ?_) (fun hc => ?_)
    · have h := cond_tt hc h
      refine T_skip fun a w hm => then_norm (((?_ : T Try.prog e 59 _ _ _) a w hm))
      refine T_seqk ?_
      refine T_block ?_
      obtain ⟨hp266, h⟩ := chk_ok h
      refine T_region [(0, { cs := (cI .i64) (a1.getD v232.toNat 0) })] [0, 1, 2, 7, 9, 13, 14, 15] [] [(0, .d (.sl 1 (a0.map (cL 1 (cI .i64))))), (1, .d (.sl 1 (a1.map (cI .i64)))), (2, .d (.v (.bool a2))), (7, .own 1 (v231.map (cI .i64))), (9, .d (.v (.int .i64 (a1.getD v232.toNat 0)))), (13, .d (.sl 1 (a1.map (cI .i64)))), (14, .d (.v (.int .i64 (a1.length : Int)))), (15, .d (.v (.int .i64 v232)))] [(0, 0 ≤ v232 ∧ (a1.map (cI .i64))[v232.toNat]? = some ((cI .i64) (a1.getD v232.toNat 0)))] 2 (by kernel_rfl) (idx_ok (d := 0) (cI .i64) hp266) ?_
      obtain ⟨hp267, h⟩ := chk_ok h
      refine T_region [(2, { cs := (cL 1 (cI .i64)) (a0.getD (a1.getD v232.toNat 0).toNat []) })] [0, 1, 2, 7, 10, 13, 14, 15] [] [(0, .d (.sl 1 (a0.map (cL 1 (cI .i64))))), (1, .d (.sl 1 (a1.map (cI .i64)))), (2, .d (.v (.bool a2))), (7, .own 1 (v231.map (cI .i64))), (10, .d (.sl 1 ((a0.getD (a1.getD v232.toNat 0).toNat []).map (cI .i64)))), (13, .d (.sl 1 (a1.map (cI .i64)))), (14, .d (.v (.int .i64 (a1.length : Int)))), (15, .d (.v (.int .i64 v232)))] [(2, 0 ≤ (a1.getD v232.toNat 0) ∧ (a0.map (cL 1 (cI .i64)))[(a1.getD v232.toNat 0).toNat]? = some ((cL 1 (cI .i64)) (a0.getD (a1.getD v232.toNat 0).toNat [])))] 2 (by kernel_rfl) (idx_ok (d := []) (cL 1 (cI .i64)) hp267) ?_
      refine T_joinc h (fun (p : (List Int)) => [(0, .d (.sl 1 (a0.map (cL 1 (cI .i64))))), (1, .d (.sl 1 (a1.map (cI .i64)))), (2, .d (.v (.bool a2))), (7, .own 1 (v231.map (cI .i64))), (10, .d (.sl 1 (p.map (cI .i64)))), (13, .d (.sl 1 (a1.map (cI .i64)))), (14, .d (.v (.int .i64 (a1.length : Int)))), (15, .d (.v (.int .i64 v232)))]) (fun s h => ?_) (fun v271 h => ?_)
      · refine T_region [] [0, 1, 2, 7, 10, 13, 14, 15, 23] [] [(0, .d (.sl 1 (a0.map (cL 1 (cI .i64))))), (1, .d (.sl 1 (a1.map (cI .i64)))), (2, .d (.v (.bool a2))), (7, .own 1 (v231.map (cI .i64))), (10, .d (.sl 1 ((a0.getD (a1.getD v232.toNat 0).toNat []).map (cI .i64)))), (13, .d (.sl 1 (a1.map (cI .i64)))), (14, .d (.v (.int .i64 (a1.length : Int)))), (15, .d (.v (.int .i64 v232))), (23, .d (.v (.bool a2)))] [] 1 (by kernel_rfl) (trivial) ?_
        refine T_cond a2 (by kernel_rfl) (fun hc => ?_) (fun hc => ?_)
        · have h := cond_tt hc h
          obtain ⟨hp273, h⟩ := chk_ok h
          obtain ⟨z274, hz275, h⟩ := lett_ok h
          obtain hs := Option.some.inj h; subst hs
          refine T_region_end [(2, { rw := some (.d (.v (.int .i64 ((a0.getD (a1.getD v232.toNat 0).toNat []).length : Int)))) }), (4, { rw := some (.d (.sl 1 (z274.map (cI .i64)))) })] [0, 1, 2, 7, 10, 13, 14, 15] [] [(0, .d (.sl 1 (a0.map (cL 1 (cI .i64))))), (1, .d (.sl 1 (a1.map (cI .i64)))), (2, .d (.v (.bool a2))), (7, .own 1 (v231.map (cI .i64))), (10, .d (.sl 1 (z274.map (cI .i64)))), (13, .d (.sl 1 (a1.map (cI .i64)))), (14, .d (.v (.int .i64 (a1.length : Int)))), (15, .d (.v (.int .i64 v232)))] [(2, True ∧ AV.d (.v (.int .i64 (((a0.getD (a1.getD v232.toNat 0).toNat []).map (cI .i64)).length : Int))) = .d (.v (.int .i64 ((a0.getD (a1.getD v232.toNat 0).toNat []).length : Int)))), (0, (2 : Int) ≠ 0), (0, (0 ≤ (0 : Int) ∧ (0 : Int) ≤ (IntKind.i64.wrap (((a0.getD (a1.getD v232.toNat 0).toNat []).length : Int).tdiv (2 : Int))) ∧ (IntKind.i64.wrap (((a0.getD (a1.getD v232.toNat 0).toNat []).length : Int).tdiv (2 : Int))) ≤ (((a0.getD (a1.getD v232.toNat 0).toNat []).map (cI .i64)).length : Int)) ∧ AV.d (.sl 1 ((((a0.getD (a1.getD v232.toNat 0).toNat []).map (cI .i64)).drop (0 : Int).toNat).take ((IntKind.i64.wrap (((a0.getD (a1.getD v232.toNat 0).toNat []).length : Int).tdiv (2 : Int))).toNat - (0 : Int).toNat))) = .d (.sl 1 (z274.map (cI .i64))))] 1 (by kernel_rfl) (⟨len_ok (cI .i64), (show (2 : Int) ≠ 0 by decide), and_trans (cutH (cI .i64) hp273) (by subst hz275; rfl)⟩) fun a w hm => then_norm (hm.co (cs := [.keep [0, 1, 2, 7, 10, 13, 14, 15]]) (by show _ = _; kernel_rfl))
        · have h := cond_ff hc h
          obtain hs := Option.some.inj h; subst hs
          refine T_skip fun a w hm => then_norm (hm.co (cs := [.keep [0, 1, 2, 7, 10, 13, 14, 15]]) (by show _ = _; kernel_rfl))
      · skip
        obtain ⟨hp276, h⟩ := chk_ok h
        refine T_region_end [(2, { es := some ((v231 ++ v271).map (cI .i64)) })] [0, 1, 2, 7, 13, 14, 15] [] [(0, .d (.sl 1 (a0.map (cL 1 (cI .i64))))), (1, .d (.sl 1 (a1.map (cI .i64)))), (2, .d (.v (.bool a2))), (7, .own 1 ((v231 ++ v271).map (cI .i64))), (13, .d (.sl 1 (a1.map (cI .i64)))), (14, .d (.v (.int .i64 (a1.length : Int)))), (15, .d (.v (.int .i64 v232)))] [(2, (v231.map (cI .i64)).length + (v271.map (cI .i64)).length ≤ 4294967296 ∧ (v231.map (cI .i64)) ++ (v271.map (cI .i64)) = ((v231 ++ v271).map (cI .i64)))] 1 (by kernel_rfl) (app_ok (cI .i64) hp276) fun a w hm => inBlock_norm (then_norm (((?_ : T Try.prog e 59 _ _ _) a w hm)))
        refine T_region_end [] [0, 1, 2, 7, 13, 14, 15] [] [(0, .d (.sl 1 (a0.map (cL 1 (cI .i64))))), (1, .d (.sl 1 (a1.map (cI .i64)))), (2, .d (.v (.bool a2))), (7, .own 1 ((v231 ++ v271).map (cI .i64))), (13, .d (.sl 1 (a1.map (cI .i64)))), (14, .d (.v (.int .i64 (a1.length : Int)))), (15, .d (.v (.int .i64 (IntKind.i64.wrap (v232 + (1 : Int))))))] [] 2 (by kernel_rfl) (trivial) fun a w hm => then_norm (⟨((v231 ++ v271), IntKind.i64.wrap (v232 + (1 : Int))), h, hm.co (cs := [.keep [0, 1, 2, 7, 13, 14, 15]]) (by show _ = _; kernel_rfl)⟩)
    · have h := cond_ff hc h
      obtain hs := Option.some.inj h; subst hs
      refine T_exit fun a w hm => then_exit (then_exit (inBlock_exit (then_norm (hm.co (cs := [.keep [0, 1, 2, 7]]) (by show _ = _; kernel_rfl)))))
  · skip
    refine fun a w hm => then_norm (((?_ : T Try.prog e 59 _ _ _) a w hm))
    refine T_seqk ?_
    refine T_region [(1, { rw := some (.d (.v (.int .i64 (a1.length : Int)))) })] [0, 1, 2, 7, 34, 35] [] [(0, .d (.sl 1 (a0.map (cL 1 (cI .i64))))), (1, .d (.sl 1 (a1.map (cI .i64)))), (2, .d (.v (.bool a2))), (7, .own 1 (v207.map (cI .i64))), (34, .d (.v (.int .i64 (a1.length : Int)))), (35, .d (.v (.int .i64 (0 : Int))))] [(1, True ∧ AV.d (.v (.int .i64 ((a1.map (cI .i64)).length : Int))) = .d (.v (.int .i64 (a1.length : Int))))] 1 (by kernel_rfl) (len_ok (cI .i64)) ?_
    refine T_joinct h (fun (p : (List Int)) => [(7, .own 1 (p.map (cI .i64)))]) (fun s h => ?_) (fun v447 h => ?_)
    · refine T_co [.keep [0, 1, 2, 7, 34, 35]] ((fun (p : (List Int) × Int) => [(0, .d (.sl 1 (a0.map (cL 1 (cI .i64))))), (1, .d (.sl 1 (a1.map (cI .i64)))), (2, .d (.v (.bool a2))), (7, .own 1 (p.1.map (cI .i64))), (34, .d (.v (.int .i64 (a1.length : Int)))), (35, .d (.v (.int .i64 p.2)))]) (v207, (0 : Int))) (by show _ = _; kernel_rfl) ?_
      refine T_block ?_
      refine T_loopF (ι := (List Int) × Int) (fun (p : (List Int) × Int) => [(0, .d (.sl 1 (a0.map (cL 1 (cI .i64))))), (1, .d (.sl 1 (a1.map (cI .i64)))), (2, .d (.v (.bool a2))), (7, .own 1 (p.1.map (cI .i64))), (34, .d (.v (.int .i64 (a1.length : Int)))), (35, .d (.v (.int .i64 p.2)))]) (fun n p => f9_L2 F a0 a1 a2 n p.1 p.2 = some s) (fun i hh => by simp [f9_L2] at hh) (fun n p h => ?_) F (v207, (0 : Int)) h
      obtain ⟨v467, v468⟩ := p
      have h : f9_L2 F a0 a1 a2 (n + 1) v467 v468 = some s := h
      rw [f9_L2] at h
      refine T_region [] [0, 1, 2, 7, 34, 35, 36] [] [(0, .d (.sl 1 (a0.map (cL 1 (cI .i64))))), (1, .d (.sl 1 (a1.map (cI .i64)))), (2, .d (.v (.bool a2))), (7, .own 1 (v467.map (cI .i64))), (34, .d (.v (.int .i64 (a1.length : Int)))), (35, .d (.v (.int .i64 v468))), (36, .d (.v (.bool (decide (v468 < (a1.length : Int))))))] [] 1 (by kernel_rfl) (trivial) ?_
      refine T_seqk ?_
      refine T_cond (decide (v468 < (a1.length : Int))) (by kernel_rfl) (fun hc => ?_) (fun hc => ?_)
      · have h := cond_tt hc h
        refine T_skip fun a w hm => then_norm (((?_ : T Try.prog e 59 _ _ _) a w hm))
        refine T_joinc h (fun (p : (List Int)) => [(0, .d (.sl 1 (a0.map (cL 1 (cI .i64))))), (1, .d (.sl 1 (a1.map (cI .i64)))), (2, .d (.v (.bool a2))), (7, .own 1 (p.map (cI .i64))), (34, .d (.v (.int .i64 (a1.length : Int)))), (35, .d (.v (.int .i64 v468)))]) (fun s h => ?_) (fun v495 h => ?_)
        · refine T_block ?_
          refine T_region [] [0, 1, 2, 7, 11, 34, 35] [] [(0, .d (.sl 1 (a0.map (cL 1 (cI .i64))))), (1, .d (.sl 1 (a1.map (cI .i64)))), (2, .d (.v (.bool a2))), (7, .own 1 (v467.map (cI .i64))), (11, .d (.v (.int .i64 v468))), (34, .d (.v (.int .i64 (a1.length : Int)))), (35, .d (.v (.int .i64 v468)))] [] 2 (by kernel_rfl) (trivial) ?_
          refine T_region [] [0, 1, 2, 7, 11, 34, 35, 38] [] [(0, .d (.sl 1 (a0.map (cL 1 (cI .i64))))), (1, .d (.sl 1 (a1.map (cI .i64)))), (2, .d (.v (.bool a2))), (7, .own 1 (v467.map (cI .i64))), (11, .d (.v (.int .i64 v468))), (34, .d (.v (.int .i64 (a1.length : Int)))), (35, .d (.v (.int .i64 v468))), (38, .d (.v (.bool a2)))] [] 1 (by kernel_rfl) (trivial) ?_
          refine T_cond a2 (by kernel_rfl) (fun hc => ?_) (fun hc => ?_)
          · have h := cond_tt hc h
            obtain ⟨hp497, h⟩ := chk_ok h
            obtain ⟨hp498, h⟩ := chk_ok h
            obtain ⟨z499, hz500, h⟩ := lett_ok h
            refine T_region [(3, { rw := some (.d (.v (.int .i64 (a1.length : Int)))) }), (7, { cs := (cI .i64) (a1.getD (IntKind.i64.wrap ((IntKind.i64.wrap ((a1.length : Int) - (1 : Int))) - v468)).toNat 0) }), (9, { cs := (cL 1 (cI .i64)) (a0.getD (a1.getD (IntKind.i64.wrap ((IntKind.i64.wrap ((a1.length : Int) - (1 : Int))) - v468)).toNat 0).toNat []) }), (10, { rw := some (.d (.sl 1 (z499.map (cI .i64)))) })] [0, 1, 2, 7, 12, 34, 35] [] [(0, .d (.sl 1 (a0.map (cL 1 (cI .i64))))), (1, .d (.sl 1 (a1.map (cI .i64)))), (2, .d (.v (.bool a2))), (7, .own 1 (v467.map (cI .i64))), (12, .d (.sl 1 (z499.map (cI .i64)))), (34, .d (.v (.int .i64 (a1.length : Int)))), (35, .d (.v (.int .i64 v468)))] [(3, True ∧ AV.d (.v (.int .i64 ((a1.map (cI .i64)).length : Int))) = .d (.v (.int .i64 (a1.length : Int)))), (3, 0 ≤ (IntKind.i64.wrap ((IntKind.i64.wrap ((a1.length : Int) - (1 : Int))) - v468)) ∧ (a1.map (cI .i64))[(IntKind.i64.wrap ((IntKind.i64.wrap ((a1.length : Int) - (1 : Int))) - v468)).toNat]? = some ((cI .i64) (a1.getD (IntKind.i64.wrap ((IntKind.i64.wrap ((a1.length : Int) - (1 : Int))) - v468)).toNat 0))), (1, 0 ≤ (a1.getD (IntKind.i64.wrap ((IntKind.i64.wrap ((a1.length : Int) - (1 : Int))) - v468)).toNat 0) ∧ (a0.map (cL 1 (cI .i64)))[(a1.getD (IntKind.i64.wrap ((IntKind.i64.wrap ((a1.length : Int) - (1 : Int))) - v468)).toNat 0).toNat]? = some ((cL 1 (cI .i64)) (a0.getD (a1.getD (IntKind.i64.wrap ((IntKind.i64.wrap ((a1.length : Int) - (1 : Int))) - v468)).toNat 0).toNat []))), (0, (True) ∧ AV.d (.sl 1 ((a0.getD (a1.getD (IntKind.i64.wrap ((IntKind.i64.wrap ((a1.length : Int) - (1 : Int))) - v468)).toNat 0).toNat []).map (cI .i64))) = .d (.sl 1 (z499.map (cI .i64))))] 1 (by kernel_rfl) (⟨len_ok (cI .i64), idx_ok (d := 0) (cI .i64) hp497, idx_ok (d := []) (cL 1 (cI .i64)) hp498, ⟨trivial, (by subst hz500; rfl)⟩⟩) ?_
            obtain ⟨hp501, h⟩ := chk_ok h
            obtain ⟨z502, hz503, h⟩ := lett_ok h
            obtain ⟨hp504, h⟩ := chk_ok h
            obtain hs := Option.some.inj h; subst hs
            refine T_region_end [(3, { rw := some (.d (.v (.int .i64 (z499.length : Int)))) }), (5, { rw := some (.d (.sl 1 (z502.map (cI .i64)))) }), (6, { es := some ((v467 ++ z502).map (cI .i64)) })] [0, 1, 2, 7, 34, 35] [] [(0, .d (.sl 1 (a0.map (cL 1 (cI .i64))))), (1, .d (.sl 1 (a1.map (cI .i64)))), (2, .d (.v (.bool a2))), (7, .own 1 ((v467 ++ z502).map (cI .i64))), (34, .d (.v (.int .i64 (a1.length : Int)))), (35, .d (.v (.int .i64 v468)))] [(3, True ∧ AV.d (.v (.int .i64 ((z499.map (cI .i64)).length : Int))) = .d (.v (.int .i64 (z499.length : Int)))), (0, (2 : Int) ≠ 0), (0, (0 ≤ (IntKind.i64.wrap ((z499.length : Int).tdiv (2 : Int))) ∧ (IntKind.i64.wrap ((z499.length : Int).tdiv (2 : Int))) ≤ ((z499.map (cI .i64)).length : Int) ∧ ((z499.map (cI .i64)).length : Int) ≤ ((z499.map (cI .i64)).length : Int)) ∧ AV.d (.sl 1 (((z499.map (cI .i64)).drop (IntKind.i64.wrap ((z499.length : Int).tdiv (2 : Int))).toNat).take (((z499.map (cI .i64)).length : Int).toNat - (IntKind.i64.wrap ((z499.length : Int).tdiv (2 : Int))).toNat))) = .d (.sl 1 (z502.map (cI .i64)))), (0, (v467.map (cI .i64)).length + (z502.map (cI .i64)).length ≤ 4294967296 ∧ (v467.map (cI .i64)) ++ (z502.map (cI .i64)) = ((v467 ++ z502).map (cI .i64)))] 1 (by kernel_rfl) (⟨len_ok (cI .i64), (show (2 : Int) ≠ 0 by decide), and_trans (cutL (cI .i64) hp501) (by subst hz503; rfl), app_ok (cI .i64) hp504⟩) fun a w hm => inBlock_norm (then_norm (hm.co (cs := [.keep [0, 1, 2, 7, 34, 35]]) (by show _ = _; kernel_rfl)))
          · have h := cond_ff hc h
            obtain hs := Option.some.inj h; subst hs
            refine T_skip fun a w hm => inBlock_norm (then_norm (hm.co (cs := [.keep [0, 1, 2, 7, 34, 35]]) (by show _ = _; kernel_rfl)))
        · skip
          refine T_region_end [] [0, 1, 2, 7, 34, 35] [] [(0, .d (.sl 1 (a0.map (cL 1 (cI .i64))))), (1, .d (.sl 1 (a1.map (cI .i64)))), (2, .d (.v (.bool a2))), (7, .own 1 (v495.map (cI .i64))), (34, .d (.v (.int .i64 (a1.length : Int)))), (35, .d (.v (.int .i64 (IntKind.i64.wrap (v468 + (1 : Int))))))] [] 2 (by kernel_rfl) (trivial) fun a w hm => then_norm (⟨(v495, IntKind.i64.wrap (v468 + (1 : Int))), h, hm.co (cs := [.keep [0, 1, 2, 7, 34, 35]]) (by show _ = _; kernel_rfl)⟩)
      · have h := cond_ff hc h
        obtain hs := Option.some.inj h; subst hs
        refine T_exit fun a w hm => then_exit (then_exit (inBlock_exit (then_norm (hm.co (cs := [.keep [7]]) (by show _ = _; kernel_rfl)))))
    · skip
      refine fun a w hm => then_norm (((?_ : T Try.prog e 59 _ _ _) a w hm))
      refine T_region [] [6, 7] [] [(6, .vw (7, 0)), (7, .own 1 (v447.map (cI .i64)))] [] 2 (by kernel_rfl) (trivial) ?_
      obtain hs := Option.some.inj h; subst hs
      refine T_ret fun a w hm => T_return (fr' := [(6, .own 1 (v447.map (cI .i64)))]) [6] (by kernel_rfl) [.claim 6, .keep [6]] (by kernel_rfl) (by kernel_rfl) (by kernel_rfl) (by show _ = _; kernel_rfl) (by exact trivial) a w hm

theorem f3_ok {F : Nat} {a0 : Int} {a1 : Int} {a2 : Int} {r : Bool} (h : f3 F a0 a1 a2 = some r) : ACall Try.prog 3 [.d (.v (.int .i64 a0)), .d (.v (.int .i64 a1)), .d (.v (.int .i64 a2))] [] (.d (.v (.bool r))) [] := by
  rw [f3] at h
  refine ACall.intro (N := 141) Try.func3 rfl rfl rfl rfl rfl fun e => ?_
  refine T_region [] [0, 1, 2] [] [(0, .d (.v (.int .i64 a0))), (1, .d (.v (.int .i64 a1))), (2, .d (.v (.int .i64 a2)))] [] 1 (by kernel_rfl) (trivial) ?_
  refine T_seqk ?_
  obtain ⟨y3, hy4, h⟩ := call_ok h
  refine T_region [(0, { res := .d (.v (.bool y3)) })] [0, 1, 2, 17] [] [(0, .d (.v (.int .i64 a0))), (1, .d (.v (.int .i64 a1))), (2, .d (.v (.int .i64 a2))), (17, .d (.v (.bool (!y3))))] [(0, ACall Try.prog 6 [] [] (.d (.v (.bool y3))) [])] 1 (by kernel_rfl) (f6_ok hy4) ?_
  refine T_cond (!y3) (by kernel_rfl) (fun hc => ?_) (fun hc => ?_)
  · have h := cond_tt hc h
    refine T_region [] [6] [] [(6, .d (.v (.bool false)))] [] 1 (by kernel_rfl) (trivial) ?_
    obtain hs := Option.some.inj h; subst hs
    refine T_ret fun a w hm => then_ret (T_return (fr' := [(6, .d (.v (.bool false)))]) [6] (by kernel_rfl) [.keep [6]] (by kernel_rfl) (by kernel_rfl) (by kernel_rfl) (by show _ = _; kernel_rfl) (by exact trivial) a w hm)
  · have h := cond_ff hc h
    refine T_skip fun a w hm => then_norm (((?_ : T Try.prog e 141 _ _ _) a w hm))
    obtain ⟨y5, hy6, h⟩ := call_ok h
    refine T_region [(3, { res := .tup [.own 1 (y5.1.map (cL 1 (cI .i64))), .d (.v (.int .i64 y5.2))] })] [0, 1, 2, 7, 8] [] [(0, .d (.v (.int .i64 a0))), (1, .d (.v (.int .i64 a1))), (2, .d (.v (.int .i64 a2))), (7, .own 1 (y5.1.map (cL 1 (cI .i64)))), (8, .d (.v (.int .i64 y5.2)))] [(3, ACall Try.prog 7 [.d (.v (.int .i64 a0)), .d (.v (.int .i64 a1)), .d (.v (.int .i64 a2))] [] (.tup [.own 1 (y5.1.map (cL 1 (cI .i64))), .d (.v (.int .i64 y5.2))]) [])] 5 (by kernel_rfl) (f7_ok hy6) ?_
    refine T_region [] [0, 1, 2, 7, 8, 9] [] [(0, .d (.v (.int .i64 a0))), (1, .d (.v (.int .i64 a1))), (2, .d (.v (.int .i64 a2))), (7, .own 1 (y5.1.map (cL 1 (cI .i64)))), (8, .d (.v (.int .i64 y5.2))), (9, .d (.v (.int .i64 (0 : Int))))] [] 1 (by kernel_rfl) (trivial) ?_
    refine T_joinc h (fun (p : Int) => [(0, .d (.v (.int .i64 a0))), (1, .d (.v (.int .i64 a1))), (2, .d (.v (.int .i64 a2))), (7, .own 1 (y5.1.map (cL 1 (cI .i64)))), (8, .d (.v (.int .i64 y5.2))), (9, .d (.v (.int .i64 p)))]) (fun s h => ?_) (fun v13 h => ?_)
    · refine T_block ?_
      obtain ⟨z15, hz16, h⟩ := lett_ok h
      refine T_region [(9, { rw := some (.d (.v (.bool z15))) })] [0, 1, 2, 7, 8, 9, 25] [] [(0, .d (.v (.int .i64 a0))), (1, .d (.v (.int .i64 a1))), (2, .d (.v (.int .i64 a2))), (7, .own 1 (y5.1.map (cL 1 (cI .i64)))), (8, .d (.v (.int .i64 y5.2))), (9, .d (.v (.int .i64 (0 : Int)))), (25, .d (.v (.bool (bif z15 then true else (decide (a1 > (64 : Int)))))))] [(3, ((((decide (a0 < (1 : Int))) == false) && true) = true → True)), (0, ((((decide (a0 < (1 : Int))) == false) && true) = true → True)), (2, ((((bif (decide (a0 < (1 : Int))) then true else (decide (a0 > (512 : Int)))) == false) && true) = true → True)), (0, ((((bif (decide (a0 < (1 : Int))) then true else (decide (a0 > (512 : Int)))) == false) && true) = true → True)), (0, (True) ∧ AV.d (.v (.bool (bif (bif (decide (a0 < (1 : Int))) then true else (decide (a0 > (512 : Int)))) then true else (decide (a1 < (2 : Int)))))) = .d (.v (.bool z15))), (1, (((z15 == false) && true) = true → True)), (0, (((z15 == false) && true) = true → True))] 2 (by kernel_rfl) (⟨(fun hg => trivial), (fun hg => trivial), (fun hg => trivial), (fun hg => trivial), ⟨trivial, (by subst hz16; rfl)⟩, (fun hg => trivial), (fun hg => trivial)⟩) ?_
      refine T_cond (bif z15 then true else (decide (a1 > (64 : Int)))) (by kernel_rfl) (fun hc => ?_) (fun hc => ?_)
      · have h := cond_tt hc h
        obtain hs := Option.some.inj h; subst hs
        refine T_region_end [] [0, 1, 2, 7, 8, 9] [] [(0, .d (.v (.int .i64 a0))), (1, .d (.v (.int .i64 a1))), (2, .d (.v (.int .i64 a2))), (7, .own 1 (y5.1.map (cL 1 (cI .i64)))), (8, .d (.v (.int .i64 y5.2))), (9, .d (.v (.int .i64 (3 : Int))))] [] 1 (by kernel_rfl) (trivial) fun a w hm => inBlock_norm (then_norm (hm.co (cs := [.keep [0, 1, 2, 7, 8, 9]]) (by show _ = _; kernel_rfl)))
      · have h := cond_ff hc h
        refine T_region [] [0, 1, 2, 7, 8, 9, 40] [] [(0, .d (.v (.int .i64 a0))), (1, .d (.v (.int .i64 a1))), (2, .d (.v (.int .i64 a2))), (7, .own 1 (y5.1.map (cL 1 (cI .i64)))), (8, .d (.v (.int .i64 y5.2))), (9, .d (.v (.int .i64 (0 : Int)))), (40, .d (.v (.bool (bif (a2 != (0 : Int)) then (a2 != (1 : Int)) else false))))] [(3, ((((a2 != (0 : Int)) == true) && true) = true → True)), (0, ((((a2 != (0 : Int)) == true) && true) = true → True))] 2 (by kernel_rfl) (⟨(fun hg => trivial), (fun hg => trivial)⟩) ?_
        refine T_cond (bif (a2 != (0 : Int)) then (a2 != (1 : Int)) else false) (by kernel_rfl) (fun hc => ?_) (fun hc => ?_)
        · have h := cond_tt hc h
          obtain hs := Option.some.inj h; subst hs
          refine T_region_end [] [0, 1, 2, 7, 8, 9] [] [(0, .d (.v (.int .i64 a0))), (1, .d (.v (.int .i64 a1))), (2, .d (.v (.int .i64 a2))), (7, .own 1 (y5.1.map (cL 1 (cI .i64)))), (8, .d (.v (.int .i64 y5.2))), (9, .d (.v (.int .i64 (14 : Int))))] [] 1 (by kernel_rfl) (trivial) fun a w hm => inBlock_norm (then_norm (hm.co (cs := [.keep [0, 1, 2, 7, 8, 9]]) (by show _ = _; kernel_rfl)))
        · have h := cond_ff hc h
          obtain ⟨z17, hz18, h⟩ := lett_ok h
          refine T_region [(11, { rw := some (.d (.v (.bool z17))) })] [0, 1, 2, 7, 8, 9, 47] [] [(0, .d (.v (.int .i64 a0))), (1, .d (.v (.int .i64 a1))), (2, .d (.v (.int .i64 a2))), (7, .own 1 (y5.1.map (cL 1 (cI .i64)))), (8, .d (.v (.int .i64 y5.2))), (9, .d (.v (.int .i64 (0 : Int)))), (47, .d (.v (.bool z17)))] [(1, (2 : Int) ≠ 0), (2, (((((a1.tmod (2 : Int)) == (1 : Int)) == false) && true) = true → True)), (0, (((((a1.tmod (2 : Int)) == (1 : Int)) == false) && true) = true → True)), (0, (((((a1.tmod (2 : Int)) == (1 : Int)) == false) && true) = true → True)), (0, ((((a2 == (1 : Int)) == true) && ((((a1.tmod (2 : Int)) == (1 : Int)) == false) && true)) = true → True)), (0, ((((a2 == (1 : Int)) == true) && ((((a1.tmod (2 : Int)) == (1 : Int)) == false) && true)) = true → (4 : Int) ≠ 0)), (0, ((((a2 == (1 : Int)) == true) && ((((a1.tmod (2 : Int)) == (1 : Int)) == false) && true)) = true → True)), (0, (((((a1.tmod (2 : Int)) == (1 : Int)) == false) && true) = true → True)), (0, (True) ∧ AV.d (.v (.bool (bif ((a1.tmod (2 : Int)) == (1 : Int)) then true else (bif (a2 == (1 : Int)) then (decide ((a1.tmod (4 : Int)) > (0 : Int))) else false)))) = .d (.v (.bool z17)))] 1 (by kernel_rfl) (⟨(show (2 : Int) ≠ 0 by decide), (fun hg => trivial), (fun hg => trivial), (fun hg => trivial), (fun hg => trivial), (fun hg => (show (4 : Int) ≠ 0 by decide)), (fun hg => trivial), (fun hg => trivial), ⟨trivial, (by subst hz18; rfl)⟩⟩) ?_
          refine T_cond z17 (by kernel_rfl) (fun hc => ?_) (fun hc => ?_)
          · have h := cond_tt hc h
            obtain hs := Option.some.inj h; subst hs
            refine T_region_end [] [0, 1, 2, 7, 8, 9] [] [(0, .d (.v (.int .i64 a0))), (1, .d (.v (.int .i64 a1))), (2, .d (.v (.int .i64 a2))), (7, .own 1 (y5.1.map (cL 1 (cI .i64)))), (8, .d (.v (.int .i64 y5.2))), (9, .d (.v (.int .i64 (4 : Int))))] [] 1 (by kernel_rfl) (trivial) fun a w hm => inBlock_norm (then_norm (hm.co (cs := [.keep [0, 1, 2, 7, 8, 9]]) (by show _ = _; kernel_rfl)))
          · have h := cond_ff hc h
            obtain ⟨y19, hy20, h⟩ := call_ok h
            refine T_region [(2, { res := .d (.v (.int .i64 y19)) })] [0, 1, 2, 7, 8, 9, 60] [] [(0, .d (.v (.int .i64 a0))), (1, .d (.v (.int .i64 a1))), (2, .d (.v (.int .i64 a2))), (7, .own 1 (y5.1.map (cL 1 (cI .i64)))), (8, .d (.v (.int .i64 y5.2))), (9, .d (.v (.int .i64 (0 : Int)))), (60, .d (.v (.bool (decide (y19 > (64 : Int))))))] [(2, ACall Try.prog 8 [.d (.v (.int .i64 a0)), .d (.v (.int .i64 a1))] [] (.d (.v (.int .i64 y19))) [])] 2 (by kernel_rfl) (f8_ok hy20) ?_
            refine T_cond (decide (y19 > (64 : Int))) (by kernel_rfl) (fun hc => ?_) (fun hc => ?_)
            · have h := cond_tt hc h
              obtain hs := Option.some.inj h; subst hs
              refine T_region_end [] [0, 1, 2, 7, 8, 9] [] [(0, .d (.v (.int .i64 a0))), (1, .d (.v (.int .i64 a1))), (2, .d (.v (.int .i64 a2))), (7, .own 1 (y5.1.map (cL 1 (cI .i64)))), (8, .d (.v (.int .i64 y5.2))), (9, .d (.v (.int .i64 (2 : Int))))] [] 1 (by kernel_rfl) (trivial) fun a w hm => inBlock_norm (then_norm (hm.co (cs := [.keep [0, 1, 2, 7, 8, 9]]) (by show _ = _; kernel_rfl)))
            · have h := cond_ff hc h
              obtain hs := Option.some.inj h; subst hs
              refine T_skip fun a w hm => inBlock_norm (then_norm (hm.co (cs := [.keep [0, 1, 2, 7, 8, 9]]) (by show _ = _; kernel_rfl)))
    · skip
      refine T_seqk ?_
      refine T_region [] [0, 1, 2, 7, 8, 9, 66] [] [(0, .d (.v (.int .i64 a0))), (1, .d (.v (.int .i64 a1))), (2, .d (.v (.int .i64 a2))), (7, .own 1 (y5.1.map (cL 1 (cI .i64)))), (8, .d (.v (.int .i64 y5.2))), (9, .d (.v (.int .i64 v13))), (66, .d (.v (.bool (v13 != (0 : Int)))))] [] 2 (by kernel_rfl) (trivial) ?_
      refine T_cond (v13 != (0 : Int)) (by kernel_rfl) (fun hc => ?_) (fun hc => ?_)
      · have h := cond_tt hc h
        refine T_region [(5, { rw := some (.d (.v (.int .i64 (y5.1.length : Int)))) })] [6] [] [(6, .d (.v (.bool (bif (y5.2 == v13) then ((y5.1.length : Int) == (0 : Int)) else false))))] [(4, ((((y5.2 == v13) == true) && true) = true → True)), (0, ((((y5.2 == v13) == true) && true) = true → True ∧ AV.d (.v (.int .i64 ((y5.1.map (cL 1 (cI .i64))).length : Int))) = .d (.v (.int .i64 (y5.1.length : Int))))), (0, ((((y5.2 == v13) == true) && true) = true → True))] 2 (by kernel_rfl) (⟨(fun hg => trivial), (fun hg => len_ok (cL 1 (cI .i64))), (fun hg => trivial)⟩) ?_
        obtain hs := Option.some.inj h; subst hs
        refine T_ret fun a w hm => then_ret (T_return (fr' := [(6, .d (.v (.bool (bif (y5.2 == v13) then ((y5.1.length : Int) == (0 : Int)) else false))))]) [6] (by kernel_rfl) [.keep [6]] (by kernel_rfl) (by kernel_rfl) (by kernel_rfl) (by show _ = _; kernel_rfl) (by exact trivial) a w hm)
      · have h := cond_ff hc h
        refine T_skip fun a w hm => then_norm (((?_ : T Try.prog e 141 _ _ _) a w hm))
        refine T_region [] [0, 1, 2, 7, 8, 10] [] [(0, .d (.v (.int .i64 a0))), (1, .d (.v (.int .i64 a1))), (2, .d (.v (.int .i64 a2))), (7, .own 1 (y5.1.map (cL 1 (cI .i64)))), (8, .d (.v (.int .i64 y5.2))), (10, .own 1 ([].map (cI .i64)))] [] 1 (by kernel_rfl) (trivial) ?_
        refine T_seqk ?_
        refine T_region [(1, { rw := some (.d (.v (.int .i64 (y5.1.length : Int)))) })] [0, 1, 2, 7, 8, 10, 75, 76, 77] [] [(0, .d (.v (.int .i64 a0))), (1, .d (.v (.int .i64 a1))), (2, .d (.v (.int .i64 a2))), (7, .own 1 (y5.1.map (cL 1 (cI .i64)))), (8, .d (.v (.int .i64 y5.2))), (10, .own 1 ([].map (cI .i64))), (75, .vw (7, 0)), (76, .d (.v (.int .i64 (y5.1.length : Int)))), (77, .d (.v (.int .i64 (0 : Int))))] [(1, True ∧ AV.d (.v (.int .i64 ((y5.1.map (cL 1 (cI .i64))).length : Int))) = .d (.v (.int .i64 (y5.1.length : Int))))] 1 (by kernel_rfl) (len_ok (cL 1 (cI .i64))) ?_
        refine T_joinEt h (fun (p : (List Int)) => [(0, .d (.v (.int .i64 a0))), (1, .d (.v (.int .i64 a1))), (2, .d (.v (.int .i64 a2))), (7, .own 1 (y5.1.map (cL 1 (cI .i64)))), (8, .d (.v (.int .i64 y5.2))), (10, .own 1 (p.map (cI .i64)))]) (fun s h hk66 => ?_) (fun v65 h => ?_)
        · refine T_co [.keep [0, 1, 2, 7, 8, 10, 75, 76, 77]] ((fun (p : (List Int) × Int) => [(0, .d (.v (.int .i64 a0))), (1, .d (.v (.int .i64 a1))), (2, .d (.v (.int .i64 a2))), (7, .own 1 (y5.1.map (cL 1 (cI .i64)))), (8, .d (.v (.int .i64 y5.2))), (10, .own 1 (p.1.map (cI .i64))), (75, .vw (7, 0)), (76, .d (.v (.int .i64 (y5.1.length : Int)))), (77, .d (.v (.int .i64 p.2)))]) ([], (0 : Int))) (by show _ = _; kernel_rfl) ?_
          refine T_block ?_
          refine T_loopF (ι := (List Int) × Int) (fun (p : (List Int) × Int) => [(0, .d (.v (.int .i64 a0))), (1, .d (.v (.int .i64 a1))), (2, .d (.v (.int .i64 a2))), (7, .own 1 (y5.1.map (cL 1 (cI .i64)))), (8, .d (.v (.int .i64 y5.2))), (10, .own 1 (p.1.map (cI .i64))), (75, .vw (7, 0)), (76, .d (.v (.int .i64 (y5.1.length : Int)))), (77, .d (.v (.int .i64 p.2)))]) (fun n p => f3_L1 F a1 y5 n p.1 p.2 = some s) (fun i hh => by simp [f3_L1] at hh) (fun n p h => ?_) F ([], (0 : Int)) h
          obtain ⟨v71, v72⟩ := p
          have h : f3_L1 F a1 y5 (n + 1) v71 v72 = some s := h
          rw [f3_L1] at h
          refine T_region [] [0, 1, 2, 7, 8, 10, 75, 76, 77, 78] [] [(0, .d (.v (.int .i64 a0))), (1, .d (.v (.int .i64 a1))), (2, .d (.v (.int .i64 a2))), (7, .own 1 (y5.1.map (cL 1 (cI .i64)))), (8, .d (.v (.int .i64 y5.2))), (10, .own 1 (v71.map (cI .i64))), (75, .vw (7, 0)), (76, .d (.v (.int .i64 (y5.1.length : Int)))), (77, .d (.v (.int .i64 v72))), (78, .d (.v (.bool (decide (v72 < (y5.1.length : Int))))))] [] 1 (by kernel_rfl) (trivial) ?_
          refine T_seqk ?_
          refine T_cond (decide (v72 < (y5.1.length : Int))) (by kernel_rfl) (fun hc => ?_) (fun hc => ?_)
          · have h := cond_tt hc h
            refine T_skip fun a w hm => then_norm (((?_ : T Try.prog e 141 _ _ _) a w hm))
            refine T_seqk ?_
            refine T_block ?_
            obtain ⟨hp79, h⟩ := chk_ok h
            refine T_region [(2, { cs := (cL 1 (cI .i64)) (y5.1.getD v72.toNat []) })] [0, 1, 2, 7, 8, 10, 11, 12, 75, 76, 77] [] [(0, .d (.v (.int .i64 a0))), (1, .d (.v (.int .i64 a1))), (2, .d (.v (.int .i64 a2))), (7, .own 1 (y5.1.map (cL 1 (cI .i64)))), (8, .d (.v (.int .i64 y5.2))), (10, .own 1 (v71.map (cI .i64))), (11, .d (.v (.int .i64 v72))), (12, .d (.sl 1 ((y5.1.getD v72.toNat []).map (cI .i64)))), (75, .vw (7, 0)), (76, .d (.v (.int .i64 (y5.1.length : Int)))), (77, .d (.v (.int .i64 v72)))] [(1, 0 ≤ v72 ∧ v72 < (y5.1.map (cL 1 (cI .i64))).length), (0, (y5.1.map (cL 1 (cI .i64)))[v72.toNat]? = some ((cL 1 (cI .i64)) (y5.1.getD v72.toNat [])))] 2 (by kernel_rfl) (⟨own_idx (cL 1 (cI .i64)) hp79, (idx_ok (d := []) (cL 1 (cI .i64)) hp79).2⟩) ?_
            obtain ⟨hp80, h⟩ := chk_ok h
            refine T_region [(2, { es := some (([v72]).map (cI .i64)) }), (3, { es := some ((v71 ++ ([v72])).map (cI .i64)) })] [0, 1, 2, 7, 8, 10, 12, 75, 76, 77] [] [(0, .d (.v (.int .i64 a0))), (1, .d (.v (.int .i64 a1))), (2, .d (.v (.int .i64 a2))), (7, .own 1 (y5.1.map (cL 1 (cI .i64)))), (8, .d (.v (.int .i64 y5.2))), (10, .own 1 ((v71 ++ ([v72])).map (cI .i64))), (12, .d (.sl 1 ((y5.1.getD v72.toNat []).map (cI .i64)))), (75, .vw (7, 0)), (76, .d (.v (.int .i64 (y5.1.length : Int)))), (77, .d (.v (.int .i64 v72)))] [(2, (([v72]).map (cI .i64)) = (([v72]).map (cI .i64))), (0, (v71.map (cI .i64)).length + (([v72]).map (cI .i64)).length ≤ 4294967296 ∧ (v71.map (cI .i64)) ++ (([v72]).map (cI .i64)) = ((v71 ++ ([v72])).map (cI .i64)))] 1 (by kernel_rfl) (⟨rfl, app_ok (cI .i64) hp80⟩) ?_
            refine T_region [(1, { rw := some (.d (.v (.int .i64 ((y5.1.getD v72.toNat []).length : Int)))) })] [0, 1, 2, 7, 8, 10, 75, 76, 77, 89] [] [(0, .d (.v (.int .i64 a0))), (1, .d (.v (.int .i64 a1))), (2, .d (.v (.int .i64 a2))), (7, .own 1 (y5.1.map (cL 1 (cI .i64)))), (8, .d (.v (.int .i64 y5.2))), (10, .own 1 ((v71 ++ ([v72])).map (cI .i64))), (75, .vw (7, 0)), (76, .d (.v (.int .i64 (y5.1.length : Int)))), (77, .d (.v (.int .i64 v72))), (89, .d (.v (.bool (((y5.1.getD v72.toNat []).length : Int) != a1))))] [(1, True ∧ AV.d (.v (.int .i64 (((y5.1.getD v72.toNat []).map (cI .i64)).length : Int))) = .d (.v (.int .i64 ((y5.1.getD v72.toNat []).length : Int))))] 2 (by kernel_rfl) (len_ok (cI .i64)) ?_
            refine T_cond (((y5.1.getD v72.toNat []).length : Int) != a1) (by kernel_rfl) (fun hc => ?_) (fun hc => ?_)
            · have h := cond_tt hc h
              refine T_region [] [6] [] [(6, .d (.v (.bool false)))] [] 1 (by kernel_rfl) (trivial) ?_
              obtain hs := Option.some.inj h; subst hs
              have h := callE_esc hk66
              obtain hs := Option.some.inj h; subst hs
              refine T_ret fun a w hm => inBlock_ret (then_ret (then_ret (inBlock_ret (then_ret (then_ret (T_return (fr' := [(6, .d (.v (.bool false)))]) [6] (by kernel_rfl) [.keep [6]] (by kernel_rfl) (by kernel_rfl) (by kernel_rfl) (by show _ = _; kernel_rfl) (by exact trivial) a w hm))))))
            · have h := cond_ff hc h
              refine T_skip fun a w hm => inBlock_norm (then_norm (((?_ : T Try.prog e 141 _ _ _) a w hm)))
              refine T_region_end [] [0, 1, 2, 7, 8, 10, 75, 76, 77] [] [(0, .d (.v (.int .i64 a0))), (1, .d (.v (.int .i64 a1))), (2, .d (.v (.int .i64 a2))), (7, .own 1 (y5.1.map (cL 1 (cI .i64)))), (8, .d (.v (.int .i64 y5.2))), (10, .own 1 ((v71 ++ ([v72])).map (cI .i64))), (75, .vw (7, 0)), (76, .d (.v (.int .i64 (y5.1.length : Int)))), (77, .d (.v (.int .i64 (IntKind.i64.wrap (v72 + (1 : Int))))))] [] 2 (by kernel_rfl) (trivial) fun a w hm => then_norm (⟨((v71 ++ ([v72])), IntKind.i64.wrap (v72 + (1 : Int))), h, hm.co (cs := [.keep [0, 1, 2, 7, 8, 10, 75, 76, 77]]) (by show _ = _; kernel_rfl)⟩)
          · have h := cond_ff hc h
            obtain hs := Option.some.inj h; subst hs
            refine T_exit fun a w hm => then_exit (then_exit (inBlock_exit (then_norm (⟨_, rfl, hm.co (cs := [.keep [0, 1, 2, 7, 8, 10]]) (by show _ = _; kernel_rfl)⟩))))
        · skip
          refine fun a w hm => then_norm (((?_ : T Try.prog e 141 _ _ _) a w hm))
          obtain ⟨y81, hy82, h⟩ := call_ok h
          refine T_region [(4, { frz := [(7, 0), (10, 0)], res := .own 1 (y81.map (cI .i64)) })] [0, 1, 7, 8, 13] [] [(0, .d (.v (.int .i64 a0))), (1, .d (.v (.int .i64 a1))), (7, .fz 1 (y5.1.map (cL 1 (cI .i64)))), (8, .d (.v (.int .i64 y5.2))), (13, .own 1 (y81.map (cI .i64)))] [(4, ACall Try.prog 9 [.d (.sl 1 (y5.1.map (cL 1 (cI .i64)))), .d (.sl 1 (v65.map (cI .i64))), .d (.v (.bool (a2 == (1 : Int))))] [] (.own 1 (y81.map (cI .i64))) [])] 1 (by kernel_rfl) (f9_ok hy82) ?_
          refine T_seqk ?_
          refine T_region [(1, { rw := some (.d (.v (.int .i64 (y81.length : Int)))) })] [0, 1, 7, 8, 13, 96, 97, 98] [] [(0, .d (.v (.int .i64 a0))), (1, .d (.v (.int .i64 a1))), (7, .fz 1 (y5.1.map (cL 1 (cI .i64)))), (8, .d (.v (.int .i64 y5.2))), (13, .own 1 (y81.map (cI .i64))), (96, .vw (13, 0)), (97, .d (.v (.int .i64 (y81.length : Int)))), (98, .d (.v (.int .i64 (0 : Int))))] [(1, True ∧ AV.d (.v (.int .i64 ((y81.map (cI .i64)).length : Int))) = .d (.v (.int .i64 (y81.length : Int))))] 1 (by kernel_rfl) (len_ok (cI .i64)) ?_
          refine T_joinEt h (fun (p : Unit) => [(0, .d (.v (.int .i64 a0))), (1, .d (.v (.int .i64 a1))), (7, .fz 1 (y5.1.map (cL 1 (cI .i64)))), (8, .d (.v (.int .i64 y5.2))), (13, .own 1 (y81.map (cI .i64)))]) (fun s h hk177 => ?_) (fun s h => ?_)
          · refine T_co [.keep [0, 1, 7, 8, 13, 96, 97, 98]] ((fun (p : Int) => [(0, .d (.v (.int .i64 a0))), (1, .d (.v (.int .i64 a1))), (7, .fz 1 (y5.1.map (cL 1 (cI .i64)))), (8, .d (.v (.int .i64 y5.2))), (13, .own 1 (y81.map (cI .i64))), (96, .vw (13, 0)), (97, .d (.v (.int .i64 (y81.length : Int)))), (98, .d (.v (.int .i64 p)))]) (0 : Int)) (by show _ = _; kernel_rfl) ?_
            refine T_block ?_
            refine T_loopF (ι := Int) (fun (p : Int) => [(0, .d (.v (.int .i64 a0))), (1, .d (.v (.int .i64 a1))), (7, .fz 1 (y5.1.map (cL 1 (cI .i64)))), (8, .d (.v (.int .i64 y5.2))), (13, .own 1 (y81.map (cI .i64))), (96, .vw (13, 0)), (97, .d (.v (.int .i64 (y81.length : Int)))), (98, .d (.v (.int .i64 p)))]) (fun n p => f3_L3 F a0 y81 n p = some s) (fun i hh => by simp [f3_L3] at hh) (fun n v188 h => ?_) F (0 : Int) h
            have h : f3_L3 F a0 y81 (n + 1) v188 = some s := h
            rw [f3_L3] at h
            refine T_region [] [0, 1, 7, 8, 13, 96, 97, 98, 99] [] [(0, .d (.v (.int .i64 a0))), (1, .d (.v (.int .i64 a1))), (7, .fz 1 (y5.1.map (cL 1 (cI .i64)))), (8, .d (.v (.int .i64 y5.2))), (13, .own 1 (y81.map (cI .i64))), (96, .vw (13, 0)), (97, .d (.v (.int .i64 (y81.length : Int)))), (98, .d (.v (.int .i64 v188))), (99, .d (.v (.bool (decide (v188 < (y81.length : Int))))))] [] 1 (by kernel_rfl) (trivial) ?_
            refine T_seqk ?_
            refine T_cond (decide (v188 < (y81.length : Int))) (by kernel_rfl) (fun hc => ?_) (fun hc => ?_)
            · have h := cond_tt hc h
              refine T_skip fun a w hm => then_norm (((?_ : T Try.prog e 141 _ _ _) a w hm))
              refine T_seqk ?_
              refine T_block ?_
              obtain ⟨hp204, h⟩ := chk_ok h
              refine T_region [(2, { cs := (cI .i64) (y81.getD v188.toNat 0) })] [0, 1, 7, 8, 13, 14, 15, 96, 97, 98] [] [(0, .d (.v (.int .i64 a0))), (1, .d (.v (.int .i64 a1))), (7, .fz 1 (y5.1.map (cL 1 (cI .i64)))), (8, .d (.v (.int .i64 y5.2))), (13, .own 1 (y81.map (cI .i64))), (14, .d (.v (.int .i64 v188))), (15, .d (.v (.int .i64 (y81.getD v188.toNat 0)))), (96, .vw (13, 0)), (97, .d (.v (.int .i64 (y81.length : Int)))), (98, .d (.v (.int .i64 v188)))] [(1, 0 ≤ v188 ∧ v188 < (y81.map (cI .i64)).length), (0, (y81.map (cI .i64))[v188.toNat]? = some ((cI .i64) (y81.getD v188.toNat 0)))] 2 (by kernel_rfl) (⟨own_idx (cI .i64) hp204, (idx_ok (d := 0) (cI .i64) hp204).2⟩) ?_
              obtain ⟨z205, hz206, h⟩ := lett_ok h
              obtain ⟨z207, hz208, h⟩ := lett_ok h
              refine T_region [(8, { rw := some (.d (.v (.bool z205))) }), (17, { rw := some (.d (.v (.bool z207))) })] [0, 1, 7, 8, 13, 96, 97, 98, 120] [] [(0, .d (.v (.int .i64 a0))), (1, .d (.v (.int .i64 a1))), (7, .fz 1 (y5.1.map (cL 1 (cI .i64)))), (8, .d (.v (.int .i64 y5.2))), (13, .own 1 (y81.map (cI .i64))), (96, .vw (13, 0)), (97, .d (.v (.int .i64 (y81.length : Int)))), (98, .d (.v (.int .i64 v188))), (120, .d (.v (.bool z207)))] [(4, ((((decide (v188 < a0)) == true) && true) = true → True)), (0, ((((decide (v188 < a0)) == true) && true) = true → True)), (0, ((((decide (v188 < a0)) == true) && true) = true → True)), (0, ((((decide (v188 < a0)) == true) && true) = true → True)), (0, (True) ∧ AV.d (.v (.bool (bif (decide (v188 < a0)) then ((y81.getD v188.toNat 0) != (IntKind.i64.wrap (v188 + (1 : Int)))) else false))) = .d (.v (.bool z205))), (1, (((z205 == false) && true) = true → True)), (0, (((z205 == false) && true) = true → True)), (0, (((z205 == false) && true) = true → True)), (0, (((z205 == false) && true) = true → True)), (0, ((((decide (v188 ≥ a0)) == true) && ((z205 == false) && true)) = true → True)), (0, ((((decide (v188 ≥ a0)) == true) && ((z205 == false) && true)) = true → True)), (0, (((z205 == false) && true) = true → True)), (0, (True) ∧ AV.d (.v (.bool (bif z205 then true else (bif (decide (v188 ≥ a0)) then ((y81.getD v188.toNat 0) != (0 : Int)) else false)))) = .d (.v (.bool z207)))] 0 (by kernel_rfl) (⟨(fun hg => trivial), (fun hg => trivial), (fun hg => trivial), (fun hg => trivial), ⟨trivial, (by subst hz206; rfl)⟩, (fun hg => trivial), (fun hg => trivial), (fun hg => trivial), (fun hg => trivial), (fun hg => trivial), (fun hg => trivial), (fun hg => trivial), ⟨trivial, (by subst hz208; rfl)⟩⟩) ?_
              refine T_cond z207 (by kernel_rfl) (fun hc => ?_) (fun hc => ?_)
              · have h := cond_tt hc h
                refine T_region [] [6] [] [(6, .d (.v (.bool false)))] [] 1 (by kernel_rfl) (trivial) ?_
                obtain hs := Option.some.inj h; subst hs
                have h := callE_esc hk177
                obtain hs := Option.some.inj h; subst hs
                refine T_ret fun a w hm => inBlock_ret (then_ret (then_ret (inBlock_ret (then_ret (then_ret (T_return (fr' := [(6, .d (.v (.bool false)))]) [6] (by kernel_rfl) [.keep [6]] (by kernel_rfl) (by kernel_rfl) (by kernel_rfl) (by show _ = _; kernel_rfl) (by exact trivial) a w hm))))))
              · have h := cond_ff hc h
                refine T_skip fun a w hm => inBlock_norm (then_norm (((?_ : T Try.prog e 141 _ _ _) a w hm)))
                refine T_region_end [] [0, 1, 7, 8, 13, 96, 97, 98] [] [(0, .d (.v (.int .i64 a0))), (1, .d (.v (.int .i64 a1))), (7, .fz 1 (y5.1.map (cL 1 (cI .i64)))), (8, .d (.v (.int .i64 y5.2))), (13, .own 1 (y81.map (cI .i64))), (96, .vw (13, 0)), (97, .d (.v (.int .i64 (y81.length : Int)))), (98, .d (.v (.int .i64 (IntKind.i64.wrap (v188 + (1 : Int))))))] [] 2 (by kernel_rfl) (trivial) fun a w hm => then_norm (⟨IntKind.i64.wrap (v188 + (1 : Int)), h, hm.co (cs := [.keep [0, 1, 7, 8, 13, 96, 97, 98]]) (by show _ = _; kernel_rfl)⟩)
            · have h := cond_ff hc h
              obtain hs := Option.some.inj h; subst hs
              refine T_exit fun a w hm => then_exit (then_exit (inBlock_exit (then_norm (⟨_, rfl, hm.co (cs := [.keep [0, 1, 7, 8, 13]]) (by show _ = _; kernel_rfl)⟩))))
          · skip
            refine fun a w hm => then_norm (((?_ : T Try.prog e 141 _ _ _) a w hm))
            obtain ⟨y209, hy210, h⟩ := call_ok h
            obtain ⟨z211, hz212, h⟩ := lett_ok h
            refine T_region [(4, { rw := some (.d (.v (.int .i64 (y5.1.length : Int)))) }), (7, { res := .d (.v (.int .i64 y209)) }), (12, { rw := some (.d (.v (.int .i64 (y81.length : Int)))) }), (15, { rw := some (.d (.v (.int .i64 (y5.1.length : Int)))) }), (18, { rw := some (.d (.v (.bool z211))) })] [6] [] [(6, .d (.v (.bool z211)))] [(3, ((((y5.2 == (0 : Int)) == true) && true) = true → True)), (0, ((((y5.2 == (0 : Int)) == true) && true) = true → True ∧ AV.d (.v (.int .i64 ((y5.1.map (cL 1 (cI .i64))).length : Int))) = .d (.v (.int .i64 (y5.1.length : Int))))), (0, ((((y5.2 == (0 : Int)) == true) && true) = true → True)), (0, ((((y5.2 == (0 : Int)) == true) && true) = true → True)), (0, ((((y5.2 == (0 : Int)) == true) && true) = true → ACall Try.prog 8 [.d (.v (.int .i64 a0)), .d (.v (.int .i64 a1))] [] (.d (.v (.int .i64 y209))) [])), (0, ((((y5.2 == (0 : Int)) == true) && true) = true → True)), (2, ((((bif (y5.2 == (0 : Int)) then ((y5.1.length : Int) == y209) else false) == true) && true) = true → True)), (0, ((((bif (y5.2 == (0 : Int)) then ((y5.1.length : Int) == y209) else false) == true) && true) = true → True ∧ AV.d (.v (.int .i64 ((y81.map (cI .i64)).length : Int))) = .d (.v (.int .i64 (y81.length : Int))))), (0, ((((bif (y5.2 == (0 : Int)) then ((y5.1.length : Int) == y209) else false) == true) && true) = true → True)), (0, ((((bif (y5.2 == (0 : Int)) then ((y5.1.length : Int) == y209) else false) == true) && true) = true → True)), (0, ((((bif (y5.2 == (0 : Int)) then ((y5.1.length : Int) == y209) else false) == true) && true) = true → True ∧ AV.d (.v (.int .i64 ((y5.1.map (cL 1 (cI .i64))).length : Int))) = .d (.v (.int .i64 (y5.1.length : Int))))), (0, ((((bif (y5.2 == (0 : Int)) then ((y5.1.length : Int) == y209) else false) == true) && true) = true → True)), (0, ((((bif (y5.2 == (0 : Int)) then ((y5.1.length : Int) == y209) else false) == true) && true) = true → True)), (0, (True) ∧ AV.d (.v (.bool (bif (bif (y5.2 == (0 : Int)) then ((y5.1.length : Int) == y209) else false) then ((y81.length : Int) == (IntKind.i64.wrap (a1 * (y5.1.length : Int)))) else false))) = .d (.v (.bool z211)))] 1 (by kernel_rfl) (⟨(fun hg => trivial), (fun hg => len_ok (cL 1 (cI .i64))), (fun hg => trivial), (fun hg => trivial), (fun hg => f8_ok (gcall_ok hg hy210)), (fun hg => trivial), (fun hg => trivial), (fun hg => len_ok (cI .i64)), (fun hg => trivial), (fun hg => trivial), (fun hg => len_ok (cL 1 (cI .i64))), (fun hg => trivial), (fun hg => trivial), ⟨trivial, (by subst hz212; rfl)⟩⟩) ?_
            obtain hs := Option.some.inj h; subst hs
            refine T_ret fun a w hm => T_return (fr' := [(6, .d (.v (.bool z211)))]) [6] (by kernel_rfl) [.keep [6]] (by kernel_rfl) (by kernel_rfl) (by kernel_rfl) (by show _ = _; kernel_rfl) (by exact trivial) a w hm

end Go.Vm.GenC3
