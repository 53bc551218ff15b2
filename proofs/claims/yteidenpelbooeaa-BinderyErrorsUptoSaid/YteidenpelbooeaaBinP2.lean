import Derived.Test.YteidenpelbooeaaBinP
namespace Go.Vm.BinG
open Go.Proofs
set_option maxRecDepth 20000
theorem fold_sheet_fold_ok {F : Nat} {a0 : S_fold_sheet} {a1 : S_FoldStep} {r : S_fold_sheet} (h : fold_sheet_fold F a0 a1 = some r) : ACall Try.prog 64 [.agg (cS_fold_sheet a0), .agg (cS_FoldStep a1)] [] (.agg (cS_fold_sheet r)) [] := by
  rw [fold_sheet_fold] at h
  refine ACall.intro (N := 117) Try.func64 rfl rfl rfl rfl rfl fun e => ?_
  refine T_region [] [2, 3, 4] [] [(2, bx_fold_sheet a0), (3, bx_FoldStep a1), (4, .box [dI 0, dI 0, oW2 []])] [] 3 (by kernel_rfl) (trivial) ?_
  obtain ⟨y1, hy1, h⟩ := call_ok h
  refine T_region [(2, { res := dI y1 })] [2, 3, 4, 5] [] [(2, bx_fold_sheet a0), (3, bx_FoldStep a1), (4, .box [dI 0, dI 0, oW2 []]), (5, dI y1)] [(2, ACall Try.prog 63 [.agg (cS_fold_sheet a0), .agg (cS_FoldStep a1)] [] (dI y1) [])] 1 (by kernel_rfl) (fold_sheet_extent_ok hy1) ?_
  refine T_region [] [2, 3, 4, 6] [] [(2, bx_fold_sheet a0), (3, bx_FoldStep a1), (4, .box [dI 0, dI 0, oW2 []]), (6, dI (if a1.f1 < (IntKind.i64.wrap (y1 - a1.f1)) then (IntKind.i64.wrap (y1 - a1.f1)) else a1.f1))] [] 8 (by kernel_rfl) (trivial) ?_
  refine T_region [(4, { take := [0] })] [2, 3, 4, 6, 7] [.nilc 7 2 104 1, .keep [2, 3, 4, 6, 7]] [(2, bx_fold_sheet a0), (3, bx_FoldStep a1), (4, .box [dI 0, dI 0, oW2 []]), (6, dI (if a1.f1 < (IntKind.i64.wrap (y1 - a1.f1)) then (IntKind.i64.wrap (y1 - a1.f1)) else a1.f1)), (7, .box [dI a0.f0, dI a0.f1, oW2 []])] [] 7 (by kernel_rfl) (trivial) ?_
  refine T_joinc h (fun (p : Int × Int) => [(2, bx_fold_sheet a0), (3, bx_FoldStep a1), (4, .box [dI 0, dI 0, oW2 []]), (6, dI (if a1.f1 < (IntKind.i64.wrap (y1 - a1.f1)) then (IntKind.i64.wrap (y1 - a1.f1)) else a1.f1)), (7, .box [dI p.1, dI p.2, oW2 []])]) (fun s h => ?_) (fun s h => ?_)
  · obtain ⟨y11, hy2, h⟩ := call_ok h
    refine T_region [(1, { res := dB y11 })] [2, 3, 4, 6, 7, 32] [] [(2, bx_fold_sheet a0), (3, bx_FoldStep a1), (4, .box [dI 0, dI 0, oW2 []]), (6, dI (if a1.f1 < (IntKind.i64.wrap (y1 - a1.f1)) then (IntKind.i64.wrap (y1 - a1.f1)) else a1.f1)), (7, .box [dI a0.f0, dI a0.f1, oW2 []]), (32, dB y11)] [(1, ACall Try.prog 67 [.agg (cS_FoldStep a1)] [] (dB y11) [])] 0 (by kernel_rfl) (fold_across_ok hy2) ?_
    refine T_cond y11 (by kernel_rfl) (fun hc => ?_) (fun hc => ?_)
    · have h := cond_tt hc h
      obtain hs := Option.some.inj h; subst hs
      refine T_region_end [] [2, 3, 4, 6, 7] [] [(2, bx_fold_sheet a0), (3, bx_FoldStep a1), (4, .box [dI 0, dI 0, oW2 []]), (6, dI (if a1.f1 < (IntKind.i64.wrap (y1 - a1.f1)) then (IntKind.i64.wrap (y1 - a1.f1)) else a1.f1)), (7, .box [dI (if a1.f1 < (IntKind.i64.wrap (y1 - a1.f1)) then (IntKind.i64.wrap (y1 - a1.f1)) else a1.f1), dI a0.f1, oW2 []])] [] 3 (by kernel_rfl) (trivial) fun a w hm => then_norm (hm.co (cs := [.keep [2, 3, 4, 6, 7]]) (by show _ = _; kernel_rfl))
    · have h := cond_ff hc h
      obtain hs := Option.some.inj h; subst hs
      refine T_region_end [] [2, 3, 4, 6, 7] [] [(2, bx_fold_sheet a0), (3, bx_FoldStep a1), (4, .box [dI 0, dI 0, oW2 []]), (6, dI (if a1.f1 < (IntKind.i64.wrap (y1 - a1.f1)) then (IntKind.i64.wrap (y1 - a1.f1)) else a1.f1)), (7, .box [dI a0.f0, dI (if a1.f1 < (IntKind.i64.wrap (y1 - a1.f1)) then (IntKind.i64.wrap (y1 - a1.f1)) else a1.f1), oW2 []])] [] 3 (by kernel_rfl) (trivial) fun a w hm => then_norm (hm.co (cs := [.keep [2, 3, 4, 6, 7]]) (by show _ = _; kernel_rfl))
  · obtain ⟨v1, v13⟩ := s
    try dsimp only at h
    refine T_region [] [2, 3, 4, 6, 7, 8] [] [(2, bx_fold_sheet a0), (3, bx_FoldStep a1), (4, .box [dI 0, dI 0, oW2 []]), (6, dI (if a1.f1 < (IntKind.i64.wrap (y1 - a1.f1)) then (IntKind.i64.wrap (y1 - a1.f1)) else a1.f1)), (7, .box [dI v1, dI v13, oW2 []]), (8, dB (bif (a1.f0 == (0 : Int)) then true else (a1.f0 == (2 : Int))))] [(4, ((((a1.f0 == (0 : Int)) == false) && true) = true → True)), (0, ((((a1.f0 == (0 : Int)) == false) && true) = true → True)), (0, ((((a1.f0 == (0 : Int)) == false) && true) = true → True))] 2 (by kernel_rfl) (⟨(fun hg => trivial), (fun hg => trivial), (fun hg => trivial)⟩) ?_
    refine T_seqk ?_
    refine T_region [] [2, 3, 4, 6, 7, 8, 46, 47] [] [(2, bx_fold_sheet a0), (3, bx_FoldStep a1), (4, .box [dI 0, dI 0, oW2 []]), (6, dI (if a1.f1 < (IntKind.i64.wrap (y1 - a1.f1)) then (IntKind.i64.wrap (y1 - a1.f1)) else a1.f1)), (7, .box [dI v1, dI v13, oW2 []]), (8, dB (bif (a1.f0 == (0 : Int)) then true else (a1.f0 == (2 : Int)))), (46, dI v13), (47, dI (0 : Int))] [] 3 (by kernel_rfl) (trivial) ?_
    refine T_joinct h (fun (p : (List (List S_FoldLeaf))) => [(4, .box [dI 0, dI 0, oW2 []]), (7, .box [dI v1, dI v13, oW2 p])]) (fun s h => ?_) (fun v16 h => ?_)
    · refine T_co [.keep [2, 3, 4, 6, 7, 8, 46, 47]] ((fun (p : (List (List S_FoldLeaf)) × Int) => [(2, bx_fold_sheet a0), (3, bx_FoldStep a1), (4, .box [dI 0, dI 0, oW2 []]), (6, dI (if a1.f1 < (IntKind.i64.wrap (y1 - a1.f1)) then (IntKind.i64.wrap (y1 - a1.f1)) else a1.f1)), (7, .box [dI v1, dI v13, oW2 p.1]), (8, dB (bif (a1.f0 == (0 : Int)) then true else (a1.f0 == (2 : Int)))), (46, dI v13), (47, dI p.2)]) ([], (0 : Int))) (by show _ = _; kernel_rfl) ?_
      refine T_block ?_
      refine T_loopF (ι := (List (List S_FoldLeaf)) × Int) (fun (p : (List (List S_FoldLeaf)) × Int) => [(2, bx_fold_sheet a0), (3, bx_FoldStep a1), (4, .box [dI 0, dI 0, oW2 []]), (6, dI (if a1.f1 < (IntKind.i64.wrap (y1 - a1.f1)) then (IntKind.i64.wrap (y1 - a1.f1)) else a1.f1)), (7, .box [dI v1, dI v13, oW2 p.1]), (8, dB (bif (a1.f0 == (0 : Int)) then true else (a1.f0 == (2 : Int)))), (46, dI v13), (47, dI p.2)]) (fun n p => fold_sheet_fold_L0 F a0 a1 y1 v1 v13 n p.1 p.2 = some s) (fun i hh => by simp [fold_sheet_fold_L0] at hh) (fun n p h => ?_) F ([], (0 : Int)) h
      obtain ⟨v14, v2⟩ := p
      have h : fold_sheet_fold_L0 F a0 a1 y1 v1 v13 (n + 1) v14 v2 = some s := h
      rw [fold_sheet_fold_L0] at h
      refine T_region [] [2, 3, 4, 6, 7, 8, 46, 47, 48] [] [(2, bx_fold_sheet a0), (3, bx_FoldStep a1), (4, .box [dI 0, dI 0, oW2 []]), (6, dI (if a1.f1 < (IntKind.i64.wrap (y1 - a1.f1)) then (IntKind.i64.wrap (y1 - a1.f1)) else a1.f1)), (7, .box [dI v1, dI v13, oW2 v14]), (8, dB (bif (a1.f0 == (0 : Int)) then true else (a1.f0 == (2 : Int)))), (46, dI v13), (47, dI v2), (48, dB (decide (v2 < v13)))] [] 1 (by kernel_rfl) (trivial) ?_
      refine T_seqk ?_
      refine T_cond (decide (v2 < v13)) (by kernel_rfl) (fun hc => ?_) (fun hc => ?_)
      · have h := cond_tt hc h
        refine T_skip fun a w hm => then_norm (((?_ : T Try.prog e 117 _ _ _) a w hm))
        refine T_seqk ?_
        refine T_block ?_
        refine T_region [] [2, 3, 4, 6, 7, 8, 9, 46, 47] [] [(2, bx_fold_sheet a0), (3, bx_FoldStep a1), (4, .box [dI 0, dI 0, oW2 []]), (6, dI (if a1.f1 < (IntKind.i64.wrap (y1 - a1.f1)) then (IntKind.i64.wrap (y1 - a1.f1)) else a1.f1)), (7, .box [dI v1, dI v13, oW2 v14]), (8, dB (bif (a1.f0 == (0 : Int)) then true else (a1.f0 == (2 : Int)))), (9, dI v2), (46, dI v13), (47, dI v2)] [] 2 (by kernel_rfl) (trivial) ?_
        refine T_region [] [2, 3, 4, 6, 7, 8, 9, 46, 47, 51, 52] [] [(2, bx_fold_sheet a0), (3, bx_FoldStep a1), (4, .box [dI 0, dI 0, oW2 []]), (6, dI (if a1.f1 < (IntKind.i64.wrap (y1 - a1.f1)) then (IntKind.i64.wrap (y1 - a1.f1)) else a1.f1)), (7, .box [dI v1, dI v13, oW2 v14]), (8, dB (bif (a1.f0 == (0 : Int)) then true else (a1.f0 == (2 : Int)))), (9, dI v2), (46, dI v13), (47, dI v2), (51, dI v1), (52, dI (0 : Int))] [] 3 (by kernel_rfl) (trivial) ?_
        refine T_joinct h (fun (p : (List (List S_FoldLeaf))) => [(2, bx_fold_sheet a0), (3, bx_FoldStep a1), (4, .box [dI 0, dI 0, oW2 []]), (6, dI (if a1.f1 < (IntKind.i64.wrap (y1 - a1.f1)) then (IntKind.i64.wrap (y1 - a1.f1)) else a1.f1)), (7, .box [dI v1, dI v13, oW2 p]), (8, dB (bif (a1.f0 == (0 : Int)) then true else (a1.f0 == (2 : Int)))), (46, dI v13), (47, dI v2)]) (fun s h => ?_) (fun v15 h => ?_)
        · refine T_co [.keep [2, 3, 4, 6, 7, 8, 9, 46, 47, 51, 52]] ((fun (p : (List (List S_FoldLeaf)) × Int) => [(2, bx_fold_sheet a0), (3, bx_FoldStep a1), (4, .box [dI 0, dI 0, oW2 []]), (6, dI (if a1.f1 < (IntKind.i64.wrap (y1 - a1.f1)) then (IntKind.i64.wrap (y1 - a1.f1)) else a1.f1)), (7, .box [dI v1, dI v13, oW2 p.1]), (8, dB (bif (a1.f0 == (0 : Int)) then true else (a1.f0 == (2 : Int)))), (9, dI v2), (46, dI v13), (47, dI v2), (51, dI v1), (52, dI p.2)]) (v14, (0 : Int))) (by show _ = _; kernel_rfl) ?_
          refine T_block ?_
          refine T_loopF (ι := (List (List S_FoldLeaf)) × Int) (fun (p : (List (List S_FoldLeaf)) × Int) => [(2, bx_fold_sheet a0), (3, bx_FoldStep a1), (4, .box [dI 0, dI 0, oW2 []]), (6, dI (if a1.f1 < (IntKind.i64.wrap (y1 - a1.f1)) then (IntKind.i64.wrap (y1 - a1.f1)) else a1.f1)), (7, .box [dI v1, dI v13, oW2 p.1]), (8, dB (bif (a1.f0 == (0 : Int)) then true else (a1.f0 == (2 : Int)))), (9, dI v2), (46, dI v13), (47, dI v2), (51, dI v1), (52, dI p.2)]) (fun n p => fold_sheet_fold_L2 F a0 a1 y1 v1 v2 n p.1 p.2 = some s) (fun i hh => by simp [fold_sheet_fold_L2] at hh) (fun n p h => ?_) F (v14, (0 : Int)) h
          obtain ⟨v3, v4⟩ := p
          have h : fold_sheet_fold_L2 F a0 a1 y1 v1 v2 (n + 1) v3 v4 = some s := h
          rw [fold_sheet_fold_L2] at h
          refine T_region [] [2, 3, 4, 6, 7, 8, 9, 46, 47, 51, 52, 53] [] [(2, bx_fold_sheet a0), (3, bx_FoldStep a1), (4, .box [dI 0, dI 0, oW2 []]), (6, dI (if a1.f1 < (IntKind.i64.wrap (y1 - a1.f1)) then (IntKind.i64.wrap (y1 - a1.f1)) else a1.f1)), (7, .box [dI v1, dI v13, oW2 v3]), (8, dB (bif (a1.f0 == (0 : Int)) then true else (a1.f0 == (2 : Int)))), (9, dI v2), (46, dI v13), (47, dI v2), (51, dI v1), (52, dI v4), (53, dB (decide (v4 < v1)))] [] 1 (by kernel_rfl) (trivial) ?_
          refine T_seqk ?_
          refine T_cond (decide (v4 < v1)) (by kernel_rfl) (fun hc => ?_) (fun hc => ?_)
          · have h := cond_tt hc h
            refine T_skip fun a w hm => then_norm (((?_ : T Try.prog e 117 _ _ _) a w hm))
            refine T_seqk ?_
            refine T_block ?_
            refine T_region [] [2, 3, 4, 6, 7, 8, 9, 10, 46, 47, 51, 52] [] [(2, bx_fold_sheet a0), (3, bx_FoldStep a1), (4, .box [dI 0, dI 0, oW2 []]), (6, dI (if a1.f1 < (IntKind.i64.wrap (y1 - a1.f1)) then (IntKind.i64.wrap (y1 - a1.f1)) else a1.f1)), (7, .box [dI v1, dI v13, oW2 v3]), (8, dB (bif (a1.f0 == (0 : Int)) then true else (a1.f0 == (2 : Int)))), (9, dI v2), (10, dI v4), (46, dI v13), (47, dI v2), (51, dI v1), (52, dI v4)] [] 2 (by kernel_rfl) (trivial) ?_
            refine T_region [] [2, 3, 4, 6, 7, 8, 9, 10, 11, 46, 47, 51, 52] [] [(2, bx_fold_sheet a0), (3, bx_FoldStep a1), (4, .box [dI 0, dI 0, oW2 []]), (6, dI (if a1.f1 < (IntKind.i64.wrap (y1 - a1.f1)) then (IntKind.i64.wrap (y1 - a1.f1)) else a1.f1)), (7, .box [dI v1, dI v13, oW2 v3]), (8, dB (bif (a1.f0 == (0 : Int)) then true else (a1.f0 == (2 : Int)))), (9, dI v2), (10, dI v4), (11, dI v2), (46, dI v13), (47, dI v2), (51, dI v1), (52, dI v4)] [] 2 (by kernel_rfl) (trivial) ?_
            refine T_joinc h (fun (p : Int) => [(2, bx_fold_sheet a0), (3, bx_FoldStep a1), (4, .box [dI 0, dI 0, oW2 []]), (6, dI (if a1.f1 < (IntKind.i64.wrap (y1 - a1.f1)) then (IntKind.i64.wrap (y1 - a1.f1)) else a1.f1)), (7, .box [dI v1, dI v13, oW2 v3]), (8, dB (bif (a1.f0 == (0 : Int)) then true else (a1.f0 == (2 : Int)))), (9, dI v2), (10, dI v4), (11, dI p), (46, dI v13), (47, dI v2), (51, dI v1), (52, dI v4)]) (fun s h => ?_) (fun v5 h => ?_)
            · obtain ⟨y2, hy3, h⟩ := call_ok h
              refine T_region [(1, { res := dB y2 })] [2, 3, 4, 6, 7, 8, 9, 10, 11, 46, 47, 51, 52, 57] [] [(2, bx_fold_sheet a0), (3, bx_FoldStep a1), (4, .box [dI 0, dI 0, oW2 []]), (6, dI (if a1.f1 < (IntKind.i64.wrap (y1 - a1.f1)) then (IntKind.i64.wrap (y1 - a1.f1)) else a1.f1)), (7, .box [dI v1, dI v13, oW2 v3]), (8, dB (bif (a1.f0 == (0 : Int)) then true else (a1.f0 == (2 : Int)))), (9, dI v2), (10, dI v4), (11, dI v2), (46, dI v13), (47, dI v2), (51, dI v1), (52, dI v4), (57, dB y2)] [(1, ACall Try.prog 67 [.agg (cS_FoldStep a1)] [] (dB y2) [])] 0 (by kernel_rfl) (fold_across_ok hy3) ?_
              refine T_cond y2 (by kernel_rfl) (fun hc => ?_) (fun hc => ?_)
              · have h := cond_tt hc h
                obtain hs := Option.some.inj h; subst hs
                refine T_region_end [] [2, 3, 4, 6, 7, 8, 9, 10, 11, 46, 47, 51, 52] [] [(2, bx_fold_sheet a0), (3, bx_FoldStep a1), (4, .box [dI 0, dI 0, oW2 []]), (6, dI (if a1.f1 < (IntKind.i64.wrap (y1 - a1.f1)) then (IntKind.i64.wrap (y1 - a1.f1)) else a1.f1)), (7, .box [dI v1, dI v13, oW2 v3]), (8, dB (bif (a1.f0 == (0 : Int)) then true else (a1.f0 == (2 : Int)))), (9, dI v2), (10, dI v4), (11, dI v4), (46, dI v13), (47, dI v2), (51, dI v1), (52, dI v4)] [] 2 (by kernel_rfl) (trivial) fun a w hm => then_norm (hm.co (cs := [.keep [2, 3, 4, 6, 7, 8, 9, 10, 11, 46, 47, 51, 52]]) (by show _ = _; kernel_rfl))
              · have h := cond_ff hc h
                obtain hs := Option.some.inj h; subst hs
                refine T_skip fun a w hm => then_norm (hm.co (cs := [.keep [2, 3, 4, 6, 7, 8, 9, 10, 11, 46, 47, 51, 52]]) (by show _ = _; kernel_rfl))
            · skip
              refine T_joinc h (fun (p : Int) => [(2, bx_fold_sheet a0), (3, bx_FoldStep a1), (4, .box [dI 0, dI 0, oW2 []]), (6, dI (if a1.f1 < (IntKind.i64.wrap (y1 - a1.f1)) then (IntKind.i64.wrap (y1 - a1.f1)) else a1.f1)), (7, .box [dI v1, dI v13, oW2 v3]), (8, dB (bif (a1.f0 == (0 : Int)) then true else (a1.f0 == (2 : Int)))), (9, dI v2), (10, dI v4), (11, dI p), (46, dI v13), (47, dI v2), (51, dI v1), (52, dI v4)]) (fun s h => ?_) (fun v6 h => ?_)
              · refine T_region [] [2, 3, 4, 6, 7, 8, 9, 10, 11, 46, 47, 51, 52, 60] [] [(2, bx_fold_sheet a0), (3, bx_FoldStep a1), (4, .box [dI 0, dI 0, oW2 []]), (6, dI (if a1.f1 < (IntKind.i64.wrap (y1 - a1.f1)) then (IntKind.i64.wrap (y1 - a1.f1)) else a1.f1)), (7, .box [dI v1, dI v13, oW2 v3]), (8, dB (bif (a1.f0 == (0 : Int)) then true else (a1.f0 == (2 : Int)))), (9, dI v2), (10, dI v4), (11, dI v5), (46, dI v13), (47, dI v2), (51, dI v1), (52, dI v4), (60, dB (!(bif (a1.f0 == (0 : Int)) then true else (a1.f0 == (2 : Int)))))] [] 2 (by kernel_rfl) (trivial) ?_
                refine T_cond (!(bif (a1.f0 == (0 : Int)) then true else (a1.f0 == (2 : Int)))) (by kernel_rfl) (fun hc => ?_) (fun hc => ?_)
                · have h := cond_tt hc h
                  obtain ⟨z1, hz1, h⟩ := lett_ok h
                  obtain hs := Option.some.inj h; subst hs
                  refine T_region_end [(1, { rw := some (dI z1) })] [2, 3, 4, 6, 7, 8, 9, 10, 11, 46, 47, 51, 52] [] [(2, bx_fold_sheet a0), (3, bx_FoldStep a1), (4, .box [dI 0, dI 0, oW2 []]), (6, dI (if a1.f1 < (IntKind.i64.wrap (y1 - a1.f1)) then (IntKind.i64.wrap (y1 - a1.f1)) else a1.f1)), (7, .box [dI v1, dI v13, oW2 v3]), (8, dB (bif (a1.f0 == (0 : Int)) then true else (a1.f0 == (2 : Int)))), (9, dI v2), (10, dI v4), (11, dI (IntKind.i64.wrap (z1 - v5))), (46, dI v13), (47, dI v2), (51, dI v1), (52, dI v4)] [(1, (True) ∧ AVdI (IntKind.i64.wrap ((if a1.f1 < (IntKind.i64.wrap (y1 - a1.f1)) then (IntKind.i64.wrap (y1 - a1.f1)) else a1.f1) - (1 : Int))) = dI z1)] 3 (by kernel_rfl) (⟨trivial, (by subst hz1; rfl)⟩) fun a w hm => then_norm (hm.co (cs := [.keep [2, 3, 4, 6, 7, 8, 9, 10, 11, 46, 47, 51, 52]]) (by show _ = _; kernel_rfl))
                · have h := cond_ff hc h
                  obtain hs := Option.some.inj h; subst hs
                  refine T_skip fun a w hm => then_norm (hm.co (cs := [.keep [2, 3, 4, 6, 7, 8, 9, 10, 11, 46, 47, 51, 52]]) (by show _ = _; kernel_rfl))
              · skip
                refine T_draw mixed [] [2, 3, 4, 6, 7, 8, 9, 10, 12, 13, 46, 47, 51, 52] [] [(2, bx_fold_sheet a0), (3, bx_FoldStep a1), (4, .box [dI 0, dI 0, oW2 []]), (6, dI (if a1.f1 < (IntKind.i64.wrap (y1 - a1.f1)) then (IntKind.i64.wrap (y1 - a1.f1)) else a1.f1)), (7, .box [dI v1, dI v13, oW2 v3]), (8, dB (bif (a1.f0 == (0 : Int)) then true else (a1.f0 == (2 : Int)))), (9, dI v2), (10, dI v4), (12, dI (IntKind.i64.wrap ((IntKind.i64.wrap (a1.f1 - (1 : Int))) - v6))), (13, dI (IntKind.i64.wrap (a1.f1 + v6))), (46, dI v13), (47, dI v2), (51, dI v1), (52, dI v4)] [] 11 (by kernel_rfl) (trivial) ?_
                refine T_joinc h (fun (p : Int × Int) => [(2, bx_fold_sheet a0), (3, bx_FoldStep a1), (4, .box [dI 0, dI 0, oW2 []]), (6, dI (if a1.f1 < (IntKind.i64.wrap (y1 - a1.f1)) then (IntKind.i64.wrap (y1 - a1.f1)) else a1.f1)), (7, .box [dI v1, dI v13, oW2 v3]), (8, dB (bif (a1.f0 == (0 : Int)) then true else (a1.f0 == (2 : Int)))), (9, dI v2), (10, dI v4), (12, dI p.1), (13, dI p.2), (46, dI v13), (47, dI v2), (51, dI v1), (52, dI v4)]) (fun s h => ?_) (fun s h => ?_)
                · refine T_region [] [2, 3, 4, 6, 7, 8, 9, 10, 12, 13, 46, 47, 51, 52, 75] [] [(2, bx_fold_sheet a0), (3, bx_FoldStep a1), (4, .box [dI 0, dI 0, oW2 []]), (6, dI (if a1.f1 < (IntKind.i64.wrap (y1 - a1.f1)) then (IntKind.i64.wrap (y1 - a1.f1)) else a1.f1)), (7, .box [dI v1, dI v13, oW2 v3]), (8, dB (bif (a1.f0 == (0 : Int)) then true else (a1.f0 == (2 : Int)))), (9, dI v2), (10, dI v4), (12, dI (IntKind.i64.wrap ((IntKind.i64.wrap (a1.f1 - (1 : Int))) - v6))), (13, dI (IntKind.i64.wrap (a1.f1 + v6))), (46, dI v13), (47, dI v2), (51, dI v1), (52, dI v4), (75, dB (!(bif (a1.f0 == (0 : Int)) then true else (a1.f0 == (2 : Int)))))] [] 2 (by kernel_rfl) (trivial) ?_
                  refine T_cond (!(bif (a1.f0 == (0 : Int)) then true else (a1.f0 == (2 : Int)))) (by kernel_rfl) (fun hc => ?_) (fun hc => ?_)
                  · have h := cond_tt hc h
                    obtain hs := Option.some.inj h; subst hs
                    refine T_region_end [] [2, 3, 4, 6, 7, 8, 9, 10, 12, 13, 46, 47, 51, 52] [] [(2, bx_fold_sheet a0), (3, bx_FoldStep a1), (4, .box [dI 0, dI 0, oW2 []]), (6, dI (if a1.f1 < (IntKind.i64.wrap (y1 - a1.f1)) then (IntKind.i64.wrap (y1 - a1.f1)) else a1.f1)), (7, .box [dI v1, dI v13, oW2 v3]), (8, dB (bif (a1.f0 == (0 : Int)) then true else (a1.f0 == (2 : Int)))), (9, dI v2), (10, dI v4), (12, dI (IntKind.i64.wrap (a1.f1 + v6))), (13, dI (IntKind.i64.wrap ((IntKind.i64.wrap (a1.f1 - (1 : Int))) - v6))), (46, dI v13), (47, dI v2), (51, dI v1), (52, dI v4)] [] 4 (by kernel_rfl) (trivial) fun a w hm => then_norm (hm.co (cs := [.keep [2, 3, 4, 6, 7, 8, 9, 10, 12, 13, 46, 47, 51, 52]]) (by show _ = _; kernel_rfl))
                  · have h := cond_ff hc h
                    obtain hs := Option.some.inj h; subst hs
                    refine T_skip fun a w hm => then_norm (hm.co (cs := [.keep [2, 3, 4, 6, 7, 8, 9, 10, 12, 13, 46, 47, 51, 52]]) (by show _ = _; kernel_rfl))
                · obtain ⟨v7, v8⟩ := s
                  try dsimp only at h
                  obtain ⟨y3, hy4, h⟩ := call_ok h
                  obtain ⟨y4, hy5, h⟩ := call_ok h
                  refine T_drawX mixed 3 (.take 1 (.take 2 (.take 5 (.take 6 (.all (.alt 0 (.all (.alt 3 (.all (.alt 4 (.all (.alt 7 (.take 8 (.take 9 .done)) .stop)) .stop)) (.alt 4 (.all (.alt 3 (.all (.alt 7 (.take 8 (.take 9 .done)) .stop)) .stop)) .stop))) (.alt 4 (.all (.alt 0 (.all (.alt 3 (.all (.alt 7 (.take 8 (.take 9 .done)) .stop)) .stop)) .stop)) .stop))))))) ([0, 0, 0, 7, 0, 0, 0, 120, 143, 511], [0, 0, 0, 7, 0, 0, 0, 112, 8, 128]) 870 [(3, { res := .d (.sl 4 (y3.map cS_FoldLeaf)) }), (7, { res := .d (.sl 4 (y4.map cS_FoldLeaf)) })] [2, 3, 4, 6, 7, 8, 9, 12, 13, 14, 15, 46, 47, 51, 52] [] [(2, bx_fold_sheet a0), (3, bx_FoldStep a1), (4, .box [dI 0, dI 0, oW2 []]), (6, dI (if a1.f1 < (IntKind.i64.wrap (y1 - a1.f1)) then (IntKind.i64.wrap (y1 - a1.f1)) else a1.f1)), (7, .box [dI v1, dI v13, oW2 v3]), (8, dB (bif (a1.f0 == (0 : Int)) then true else (a1.f0 == (2 : Int)))), (9, dI v2), (12, dI v7), (13, dI v8), (14, .d (.sl 4 (y3.map cS_FoldLeaf))), (15, .d (.sl 4 (y4.map cS_FoldLeaf))), (46, dI v13), (47, dI v2), (51, dI v1), (52, dI v4)] ((fun (o3 : Prop) => fun (o7 : Prop) => [(5, o3), (1, o7), (3, o3), (0, o7), (4, o3), (0, o7)]) (ACall Try.prog 68 [.agg (cS_fold_sheet a0), dI v4, dI v7] [] (.d (.sl 4 (y3.map cS_FoldLeaf))) []) (ACall Try.prog 68 [.agg (cS_fold_sheet a0), dI v4, dI v8] [] (.d (.sl 4 (y4.map cS_FoldLeaf))) [])) 2 (by kernel_rfl) (by kernel_rfl) (by kernel_rfl) (have p3 := fold_sheet_pile_ok hy4; have p7 := fold_sheet_pile_ok hy5; ⟨p3, p7, p3, p7, p3, p7⟩) ?_
                  refine T_joinc h (fun (p : (List S_FoldLeaf) × (List S_FoldLeaf)) => [(2, bx_fold_sheet a0), (3, bx_FoldStep a1), (4, .box [dI 0, dI 0, oW2 []]), (6, dI (if a1.f1 < (IntKind.i64.wrap (y1 - a1.f1)) then (IntKind.i64.wrap (y1 - a1.f1)) else a1.f1)), (7, .box [dI v1, dI v13, oW2 v3]), (8, dB (bif (a1.f0 == (0 : Int)) then true else (a1.f0 == (2 : Int)))), (9, dI v2), (14, .d (.sl 4 (p.1.map cS_FoldLeaf))), (15, .d (.sl 4 (p.2.map cS_FoldLeaf))), (46, dI v13), (47, dI v2), (51, dI v1), (52, dI v4)]) (fun s h => ?_) (fun s h => ?_)
                  · obtain ⟨y5, hy6, h⟩ := call_ok h
                    refine T_region [(1, { res := dB y5 })] [2, 3, 4, 6, 7, 8, 9, 12, 13, 14, 15, 46, 47, 51, 52, 87] [] [(2, bx_fold_sheet a0), (3, bx_FoldStep a1), (4, .box [dI 0, dI 0, oW2 []]), (6, dI (if a1.f1 < (IntKind.i64.wrap (y1 - a1.f1)) then (IntKind.i64.wrap (y1 - a1.f1)) else a1.f1)), (7, .box [dI v1, dI v13, oW2 v3]), (8, dB (bif (a1.f0 == (0 : Int)) then true else (a1.f0 == (2 : Int)))), (9, dI v2), (12, dI v7), (13, dI v8), (14, .d (.sl 4 (y3.map cS_FoldLeaf))), (15, .d (.sl 4 (y4.map cS_FoldLeaf))), (46, dI v13), (47, dI v2), (51, dI v1), (52, dI v4), (87, dB y5)] [(1, ACall Try.prog 67 [.agg (cS_FoldStep a1)] [] (dB y5) [])] 0 (by kernel_rfl) (fold_across_ok hy6) ?_
                    refine T_cond y5 (by kernel_rfl) (fun hc => ?_) (fun hc => ?_)
                    · have h := cond_tt hc h
                      obtain ⟨y6, hy7, h⟩ := call_ok h
                      obtain ⟨y7, hy8, h⟩ := call_ok h
                      obtain hs := Option.some.inj h; subst hs
                      refine T_drawX_end mixed 3 (.take 1 (.take 2 (.take 5 (.take 6 (.all (.alt 0 (.all (.alt 3 (.all (.alt 4 (.all (.alt 7 (.take 8 (.take 9 .done)) .stop)) .stop)) (.alt 4 (.all (.alt 3 (.all (.alt 7 (.take 8 (.take 9 .done)) .stop)) .stop)) .stop))) (.alt 4 (.all (.alt 0 (.all (.alt 3 (.all (.alt 7 (.take 8 (.take 9 .done)) .stop)) .stop)) .stop)) .stop))))))) ([0, 0, 0, 7, 0, 0, 0, 120, 143, 511], [0, 0, 0, 7, 0, 0, 0, 112, 8, 128]) 870 [(3, { res := .d (.sl 4 (y6.map cS_FoldLeaf)) }), (7, { res := .d (.sl 4 (y7.map cS_FoldLeaf)) })] [2, 3, 4, 6, 7, 8, 9, 14, 15, 46, 47, 51, 52] [] [(2, bx_fold_sheet a0), (3, bx_FoldStep a1), (4, .box [dI 0, dI 0, oW2 []]), (6, dI (if a1.f1 < (IntKind.i64.wrap (y1 - a1.f1)) then (IntKind.i64.wrap (y1 - a1.f1)) else a1.f1)), (7, .box [dI v1, dI v13, oW2 v3]), (8, dB (bif (a1.f0 == (0 : Int)) then true else (a1.f0 == (2 : Int)))), (9, dI v2), (14, .d (.sl 4 (y6.map cS_FoldLeaf))), (15, .d (.sl 4 (y7.map cS_FoldLeaf))), (46, dI v13), (47, dI v2), (51, dI v1), (52, dI v4)] ((fun (o3 : Prop) => fun (o7 : Prop) => [(5, o3), (1, o7), (3, o3), (0, o7), (4, o3), (0, o7)]) (ACall Try.prog 68 [.agg (cS_fold_sheet a0), dI v7, dI v2] [] (.d (.sl 4 (y6.map cS_FoldLeaf))) []) (ACall Try.prog 68 [.agg (cS_fold_sheet a0), dI v8, dI v2] [] (.d (.sl 4 (y7.map cS_FoldLeaf))) [])) 2 (by kernel_rfl) (by kernel_rfl) (by kernel_rfl) (have p3 := fold_sheet_pile_ok hy7; have p7 := fold_sheet_pile_ok hy8; ⟨p3, p7, p3, p7, p3, p7⟩) fun a w hm => then_norm (hm.co (cs := [.keep [2, 3, 4, 6, 7, 8, 9, 14, 15, 46, 47, 51, 52]]) (by show _ = _; kernel_rfl))
                    · have h := cond_ff hc h
                      obtain hs := Option.some.inj h; subst hs
                      refine T_skip fun a w hm => then_norm (hm.co (cs := [.keep [2, 3, 4, 6, 7, 8, 9, 14, 15, 46, 47, 51, 52]]) (by show _ = _; kernel_rfl))
                  · obtain ⟨v9, v10⟩ := s
                    try dsimp only at h
                    obtain ⟨y8, hy9, h⟩ := call_ok h
                    obtain ⟨y9, hy10, h⟩ := call_ok h
                    refine T_region [(2, { res := dB y8 }), (3, { res := oW3 y9 })] [2, 3, 4, 6, 7, 8, 9, 14, 15, 46, 47, 51, 52] [] [(2, bx_fold_sheet a0), (3, bx_FoldStep a1), (4, .box [dI 0, dI 0, oW2 []]), (6, dI (if a1.f1 < (IntKind.i64.wrap (y1 - a1.f1)) then (IntKind.i64.wrap (y1 - a1.f1)) else a1.f1)), (7, .box [dI v1, dI v13, oW2 v3]), (8, dB (bif (a1.f0 == (0 : Int)) then true else (a1.f0 == (2 : Int)))), (9, dI v2), (14, oW3 y9), (15, .d (.sl 4 (v10.map cS_FoldLeaf))), (46, dI v13), (47, dI v2), (51, dI v1), (52, dI v4)] [(2, ACall Try.prog 67 [.agg (cS_FoldStep a1)] [] (dB y8) []), (0, ACall Try.prog 69 [.d (.sl 4 (v9.map cS_FoldLeaf)), dB y8] [] (oW3 y9) [])] 1 (by kernel_rfl) (⟨fold_across_ok hy9, fold_flipped_ok hy10⟩) ?_
                    refine T_joinc h (fun (p : (List S_FoldLeaf) × (List S_FoldLeaf)) => [(2, bx_fold_sheet a0), (3, bx_FoldStep a1), (4, .box [dI 0, dI 0, oW2 []]), (6, dI (if a1.f1 < (IntKind.i64.wrap (y1 - a1.f1)) then (IntKind.i64.wrap (y1 - a1.f1)) else a1.f1)), (7, .box [dI v1, dI v13, oW2 v3]), (8, dB (bif (a1.f0 == (0 : Int)) then true else (a1.f0 == (2 : Int)))), (9, dI v2), (14, .d (.sl 4 (p.1.map cS_FoldLeaf))), (15, .d (.sl 4 (p.2.map cS_FoldLeaf))), (46, dI v13), (47, dI v2), (51, dI v1), (52, dI v4)]) (fun s h => ?_) (fun s h => ?_)
                    · refine T_region [] [2, 3, 4, 6, 7, 8, 9, 14, 15, 46, 47, 51, 52, 102] [] [(2, bx_fold_sheet a0), (3, bx_FoldStep a1), (4, .box [dI 0, dI 0, oW2 []]), (6, dI (if a1.f1 < (IntKind.i64.wrap (y1 - a1.f1)) then (IntKind.i64.wrap (y1 - a1.f1)) else a1.f1)), (7, .box [dI v1, dI v13, oW2 v3]), (8, dB (bif (a1.f0 == (0 : Int)) then true else (a1.f0 == (2 : Int)))), (9, dI v2), (14, oW3 y9), (15, .d (.sl 4 (v10.map cS_FoldLeaf))), (46, dI v13), (47, dI v2), (51, dI v1), (52, dI v4), (102, dB (!a1.f2))] [] 3 (by kernel_rfl) (trivial) ?_
                      refine T_cond (!a1.f2) (by kernel_rfl) (fun hc => ?_) (fun hc => ?_)
                      · have h := cond_tt hc h
                        obtain hs := Option.some.inj h; subst hs
                        refine T_region_end [(1, { frz := [(14, 0)] })] [2, 3, 4, 6, 7, 8, 9, 14, 15, 46, 47, 51, 52] [] [(2, bx_fold_sheet a0), (3, bx_FoldStep a1), (4, .box [dI 0, dI 0, oW2 []]), (6, dI (if a1.f1 < (IntKind.i64.wrap (y1 - a1.f1)) then (IntKind.i64.wrap (y1 - a1.f1)) else a1.f1)), (7, .box [dI v1, dI v13, oW2 v3]), (8, dB (bif (a1.f0 == (0 : Int)) then true else (a1.f0 == (2 : Int)))), (9, dI v2), (14, .d (.sl 4 (v10.map cS_FoldLeaf))), (15, .d (.sl 4 (y9.map cS_FoldLeaf))), (46, dI v13), (47, dI v2), (51, dI v1), (52, dI v4)] [] 4 (by kernel_rfl) (trivial) fun a w hm => then_norm (hm.co (cs := [.keep [2, 3, 4, 6, 7, 8, 9, 14, 15, 46, 47, 51, 52]]) (by show _ = _; kernel_rfl))
                      · have h := cond_ff hc h
                        obtain hs := Option.some.inj h; subst hs
                        refine T_skip fun a w hm => then_norm (hm.co (cs := [.thaw 14, .keep [2, 3, 4, 6, 7, 8, 9, 14, 15, 46, 47, 51, 52]]) (by show _ = _; kernel_rfl))
                    · obtain ⟨v11, v12⟩ := s
                      try dsimp only at h
                      obtain ⟨y10, hy11, h⟩ := call_ok h
                      obtain ⟨hp1, h⟩ := chk_ok h
                      refine T_drawX_end mixed 4 (.take 0 (.take 2 (.take 3 (.all (.alt 1 (.all (.alt 4 (.all (.alt 5 (.all (.alt 6 (.all (.alt 7 (.take 8 (.all (.alt 9 .done .stop))) .stop)) .stop)) .stop)) .stop)) (.alt 4 (.all (.alt 1 (.all (.alt 5 (.all (.alt 6 (.all (.alt 7 (.take 8 (.all (.alt 9 .done .stop))) .stop)) .stop)) .stop)) (.alt 5 (.all (.alt 1 (.all (.alt 6 (.all (.alt 7 (.take 8 (.all (.alt 9 .done .stop))) .stop)) .stop)) (.alt 6 (.all (.alt 1 (.all (.alt 7 (.take 8 (.all (.alt 9 .done .stop))) .stop)) .stop)) .stop))) .stop))) .stop)))))) ([0, 1, 0, 0, 12, 16, 32, 98, 255, 511], [0, 1, 0, 0, 12, 16, 32, 66, 0, 384]) 269 [(4, { es := some (([v11, v12]).map (cL 4 cS_FoldLeaf)) }), (5, { frz := [(109, 0)], res := oW3 y10 }), (6, { frz := [(110, 0)], es := some (([y10]).map (cL 4 cS_FoldLeaf)) }), (7, { es := some ((v3 ++ ([y10])).map (cL 4 cS_FoldLeaf)) })] [2, 3, 4, 6, 7, 8, 9, 46, 47, 51, 52] [] [(2, bx_fold_sheet a0), (3, bx_FoldStep a1), (4, .box [dI 0, dI 0, oW2 []]), (6, dI (if a1.f1 < (IntKind.i64.wrap (y1 - a1.f1)) then (IntKind.i64.wrap (y1 - a1.f1)) else a1.f1)), (7, .box [dI v1, dI v13, .own 104 1 ((v3 ++ ([y10])).map (cL 4 cS_FoldLeaf))]), (8, dB (bif (a1.f0 == (0 : Int)) then true else (a1.f0 == (2 : Int)))), (9, dI v2), (46, dI v13), (47, dI v2), (51, dI v1), (52, dI v4)] ((fun (o4 : Prop) => fun (o5 : Prop) => fun (o6 : Prop) => fun (o7 : Prop) => [(4, o4), (0, o5), (0, o6), (0, o7), (2, o4), (1, o5), (0, o6), (0, o7), (2, o5), (1, o6), (0, o7), (2, o6), (1, o7)]) ((([v11, v12]).map (cL 4 cS_FoldLeaf)) = (([v11, v12]).map (cL 4 cS_FoldLeaf))) (ACall Try.prog 70 [.d (.sl 1 (([v11, v12]).map (cL 4 cS_FoldLeaf)))] [] (oW3 y10) []) ((([y10]).map (cL 4 cS_FoldLeaf)) = (([y10]).map (cL 4 cS_FoldLeaf))) ((v3.map (cL 4 cS_FoldLeaf)).length + (([y10]).map (cL 4 cS_FoldLeaf)).length ≤ 4294967296 ∧ (v3.map (cL 4 cS_FoldLeaf)) ++ (([y10]).map (cL 4 cS_FoldLeaf)) = ((v3 ++ ([y10])).map (cL 4 cS_FoldLeaf)))) 2 (by kernel_rfl) (by kernel_rfl) (by kernel_rfl) (have p4 := rfl; have p5 := slices_Concat_FoldLeaf_ok hy11; have p6 := rfl; have p7 := app_ok (cL 4 cS_FoldLeaf) hp1; ⟨p4, p5, p6, p7, p4, p5, p6, p7, p5, p6, p7, p6, p7⟩) fun a w hm => inBlock_norm (then_norm (((?_ : T Try.prog e 117 _ _ _) a w hm)))
                      refine T_region_end [] [2, 3, 4, 6, 7, 8, 9, 46, 47, 51, 52] [] [(2, bx_fold_sheet a0), (3, bx_FoldStep a1), (4, .box [dI 0, dI 0, oW2 []]), (6, dI (if a1.f1 < (IntKind.i64.wrap (y1 - a1.f1)) then (IntKind.i64.wrap (y1 - a1.f1)) else a1.f1)), (7, .box [dI v1, dI v13, .own 104 1 ((v3 ++ ([y10])).map (cL 4 cS_FoldLeaf))]), (8, dB (bif (a1.f0 == (0 : Int)) then true else (a1.f0 == (2 : Int)))), (9, dI v2), (46, dI v13), (47, dI v2), (51, dI v1), (52, dI (IntKind.i64.wrap (v4 + (1 : Int))))] [] 2 (by kernel_rfl) (trivial) fun a w hm => then_norm (⟨((v3 ++ ([y10])), IntKind.i64.wrap (v4 + (1 : Int))), h, hm.co (cs := [.keep [2, 3, 4, 6, 7, 8, 9, 46, 47, 51, 52]]) (by show _ = _; kernel_rfl)⟩)
          · have h := cond_ff hc h
            obtain hs := Option.some.inj h; subst hs
            refine T_exit fun a w hm => then_exit (then_exit (inBlock_exit (then_norm (hm.co (cs := [.keep [2, 3, 4, 6, 7, 8, 46, 47]]) (by show _ = _; kernel_rfl)))))
        · skip
          refine fun a w hm => inBlock_norm (then_norm (((?_ : T Try.prog e 117 _ _ _) a w hm)))
          refine T_region_end [] [2, 3, 4, 6, 7, 8, 46, 47] [] [(2, bx_fold_sheet a0), (3, bx_FoldStep a1), (4, .box [dI 0, dI 0, oW2 []]), (6, dI (if a1.f1 < (IntKind.i64.wrap (y1 - a1.f1)) then (IntKind.i64.wrap (y1 - a1.f1)) else a1.f1)), (7, .box [dI v1, dI v13, oW2 v15]), (8, dB (bif (a1.f0 == (0 : Int)) then true else (a1.f0 == (2 : Int)))), (46, dI v13), (47, dI (IntKind.i64.wrap (v2 + (1 : Int))))] [] 2 (by kernel_rfl) (trivial) fun a w hm => then_norm (⟨(v15, IntKind.i64.wrap (v2 + (1 : Int))), h, hm.co (cs := [.keep [2, 3, 4, 6, 7, 8, 46, 47]]) (by show _ = _; kernel_rfl)⟩)
      · have h := cond_ff hc h
        obtain hs := Option.some.inj h; subst hs
        refine T_exit fun a w hm => then_exit (then_exit (inBlock_exit (then_norm (hm.co (cs := [.keep [4, 7]]) (by show _ = _; kernel_rfl)))))
    · skip
      refine fun a w hm => then_norm (((?_ : T Try.prog e 117 _ _ _) a w hm))
      refine T_region [(0, { frz := [(7, 3)] })] [4] [] [(4, .box [dI v1, dI v13, .d (.sl 1 (v16.map (cL 4 cS_FoldLeaf)))])] [] 2 (by kernel_rfl) (trivial) ?_
      obtain hs := Option.some.inj h; subst hs
      refine T_ret fun a w hm => T_returnC (fr' := [(4, .box [dI v1, dI v13, .d (.sl 1 (v16.map (cL 4 cS_FoldLeaf)))])]) (ts := [117]) (N' := 118) (fr2 := [(117, .agg (cS_fold_sheet (S_fold_sheet.mk v1 v13 v16)))] ++ [(4, .box [dI v1, dI v13, .d (.sl 1 (v16.map (cL 4 cS_FoldLeaf)))])]) [.keep [4]] (by kernel_rfl) (by kernel_rfl) (by kernel_rfl) (by kernel_rfl) (by show _ = _; kernel_rfl) (by exact trivial) a w hm

theorem fold_Check_ok {F : Nat} {a0 : S_FoldScheme} {r : Int} (h : fold_Check F a0 = some r) : ACall Try.prog 43 [.agg (cS_FoldScheme a0)] [] (.d (.v (.int .i64 r))) [] := by
  rw [fold_Check] at h
  refine ACall.intro (N := 68) Try.func43 rfl rfl rfl rfl rfl fun e => ?_
  refine T_region [] [1] [] [(1, bx_FoldScheme a0)] [] 2 (by kernel_rfl) (trivial) ?_
  refine T_seqk ?_
  obtain ⟨z3, hz1, h⟩ := lett_ok h
  refine T_region [(12, { rw := some (dB z3) })] [1, 23] [] [(1, bx_FoldScheme a0), (23, dB (bif z3 then true else (decide (a0.f1 > (8 : Int)))))] [(4, ((((decide (a0.f0 < (1 : Int))) == false) && true) = true → True)), (0, ((((decide (a0.f0 < (1 : Int))) == false) && true) = true → True)), (0, ((((decide (a0.f0 < (1 : Int))) == false) && true) = true → True)), (2, ((((bif (decide (a0.f0 < (1 : Int))) then true else (decide (a0.f0 > (8 : Int)))) == false) && true) = true → True)), (0, ((((bif (decide (a0.f0 < (1 : Int))) then true else (decide (a0.f0 > (8 : Int)))) == false) && true) = true → True)), (0, ((((bif (decide (a0.f0 < (1 : Int))) then true else (decide (a0.f0 > (8 : Int)))) == false) && true) = true → True)), (0, (True) ∧ AVdB (bif (bif (decide (a0.f0 < (1 : Int))) then true else (decide (a0.f0 > (8 : Int)))) then true else (decide (a0.f1 < (1 : Int)))) = dB z3), (1, (((z3 == false) && true) = true → True)), (0, (((z3 == false) && true) = true → True)), (0, (((z3 == false) && true) = true → True))] 1 (by kernel_rfl) (⟨(fun hg => trivial), (fun hg => trivial), (fun hg => trivial), (fun hg => trivial), (fun hg => trivial), (fun hg => trivial), ⟨trivial, (by subst hz1; rfl)⟩, (fun hg => trivial), (fun hg => trivial), (fun hg => trivial)⟩) ?_
  refine T_cond (bif z3 then true else (decide (a0.f1 > (8 : Int)))) (by kernel_rfl) (fun hc => ?_) (fun hc => ?_)
  · have h := cond_tt hc h
    refine T_region [] [2] [] [(2, dI (3 : Int))] [] 1 (by kernel_rfl) (trivial) ?_
    obtain hs := Option.some.inj h; subst hs
    refine T_ret fun a w hm => then_ret (T_return (fr' := [(2, dI (3 : Int))]) [2] (by kernel_rfl) [.keep [2]] (by kernel_rfl) (by kernel_rfl) (by kernel_rfl) (by show _ = _; kernel_rfl) (by exact trivial) a w hm)
  · have h := cond_ff hc h
    refine T_skip fun a w hm => then_norm (((?_ : T Try.prog e 68 _ _ _) a w hm))
    refine T_seqk ?_
    obtain ⟨z4, hz2, h⟩ := lett_ok h
    refine T_region [(9, { rw := some (dI (a0.f2.length : Int)) }), (11, { rw := some (dB z4) })] [1, 35] [] [(1, bx_FoldScheme a0), (35, dB z4)] [(7, ((((decide ((IntKind.i64.wrap (a0.f0 * a0.f1)) > (32 : Int))) == false) && true) = true → True)), (0, ((((decide ((IntKind.i64.wrap (a0.f0 * a0.f1)) > (32 : Int))) == false) && true) = true → True)), (0, ((((decide ((IntKind.i64.wrap (a0.f0 * a0.f1)) > (32 : Int))) == false) && true) = true → True ∧ AVdI ((a0.f2.map cS_FoldStep).length : Int) = dI (a0.f2.length : Int))), (0, ((((decide ((IntKind.i64.wrap (a0.f0 * a0.f1)) > (32 : Int))) == false) && true) = true → True)), (0, (True) ∧ AVdB (bif (decide ((IntKind.i64.wrap (a0.f0 * a0.f1)) > (32 : Int))) then true else (decide ((a0.f2.length : Int) > (8 : Int)))) = dB z4)] 0 (by kernel_rfl) (⟨(fun hg => trivial), (fun hg => trivial), (fun hg => len_ok cS_FoldStep), (fun hg => trivial), ⟨trivial, (by subst hz2; rfl)⟩⟩) ?_
    refine T_cond z4 (by kernel_rfl) (fun hc => ?_) (fun hc => ?_)
    · have h := cond_tt hc h
      refine T_region [] [2] [] [(2, dI (2 : Int))] [] 1 (by kernel_rfl) (trivial) ?_
      obtain hs := Option.some.inj h; subst hs
      refine T_ret fun a w hm => then_ret (T_return (fr' := [(2, dI (2 : Int))]) [2] (by kernel_rfl) [.keep [2]] (by kernel_rfl) (by kernel_rfl) (by kernel_rfl) (by show _ = _; kernel_rfl) (by exact trivial) a w hm)
    · have h := cond_ff hc h
      refine T_skip fun a w hm => then_norm (((?_ : T Try.prog e 68 _ _ _) a w hm))
      obtain ⟨y3, hy1, h⟩ := call_ok h
      refine T_region [(1, { res := .agg (cS_fold_sheet y3) })] [1, 3] [] [(1, bx_FoldScheme a0), (3, bx_fold_sheet y3)] [(1, ACall Try.prog 62 [.agg (cS_FoldScheme a0)] [] (.agg (cS_fold_sheet y3)) [])] 2 (by kernel_rfl) (fold_flat_ok hy1) ?_
      refine T_seqk ?_
      refine T_region [(2, { rw := some (dI (a0.f2.length : Int)) })] [3, 39, 40, 41] [] [(3, bx_fold_sheet y3), (39, .d (.sl 3 (a0.f2.map cS_FoldStep))), (40, dI (a0.f2.length : Int)), (41, dI (0 : Int))] [(2, True ∧ AVdI ((a0.f2.map cS_FoldStep).length : Int) = dI (a0.f2.length : Int))] 1 (by kernel_rfl) (len_ok cS_FoldStep) ?_
      refine T_joinEt h (fun (p : Unit) => []) (fun s h hk1 => ?_) (fun s h => ?_)
      · refine T_co [.keep [3, 39, 40, 41]] ((fun (p : Int × Int × (List (List S_FoldLeaf)) × Int) => [(3, .box [dI p.1, dI p.2.1, .d (.sl 1 (p.2.2.1.map (cL 4 cS_FoldLeaf)))]), (39, .d (.sl 3 (a0.f2.map cS_FoldStep))), (40, dI (a0.f2.length : Int)), (41, dI p.2.2.2)]) (y3.f0, y3.f1, y3.f2, (0 : Int))) (by show _ = _; kernel_rfl) ?_
        refine T_block ?_
        refine T_loopF (ι := Int × Int × (List (List S_FoldLeaf)) × Int) (fun (p : Int × Int × (List (List S_FoldLeaf)) × Int) => [(3, .box [dI p.1, dI p.2.1, .d (.sl 1 (p.2.2.1.map (cL 4 cS_FoldLeaf)))]), (39, .d (.sl 3 (a0.f2.map cS_FoldStep))), (40, dI (a0.f2.length : Int)), (41, dI p.2.2.2)]) (fun n p => fold_Check_L0 F a0 n p.1 p.2.1 p.2.2.1 p.2.2.2 = some s) (fun i hh => by simp [fold_Check_L0] at hh) (fun n p h => ?_) F (y3.f0, y3.f1, y3.f2, (0 : Int)) h
        obtain ⟨v1, v2, v3, v4⟩ := p
        have h : fold_Check_L0 F a0 (n + 1) v1 v2 v3 v4 = some s := h
        rw [fold_Check_L0] at h
        refine T_region [] [3, 39, 40, 41, 42] [] [(3, .box [dI v1, dI v2, .d (.sl 1 (v3.map (cL 4 cS_FoldLeaf)))]), (39, .d (.sl 3 (a0.f2.map cS_FoldStep))), (40, dI (a0.f2.length : Int)), (41, dI v4), (42, dB (decide (v4 < (a0.f2.length : Int))))] [] 1 (by kernel_rfl) (trivial) ?_
        refine T_seqk ?_
        refine T_cond (decide (v4 < (a0.f2.length : Int))) (by kernel_rfl) (fun hc => ?_) (fun hc => ?_)
        · have h := cond_tt hc h
          refine T_skip fun a w hm => then_norm (((?_ : T Try.prog e 68 _ _ _) a w hm))
          refine T_seqk ?_
          refine T_block ?_
          obtain ⟨hp1, h⟩ := chk_ok h
          refine T_region [(0, { cs := cS_FoldStep (a0.f2.getD v4.toNat (S_FoldStep.mk 0 0 false)) })] [3, 5, 39, 40, 41] [] [(3, .box [dI v1, dI v2, .d (.sl 1 (v3.map (cL 4 cS_FoldLeaf)))]), (5, .box [dI ((a0.f2.getD v4.toNat (S_FoldStep.mk 0 0 false)).f0), dI ((a0.f2.getD v4.toNat (S_FoldStep.mk 0 0 false)).f1), dB ((a0.f2.getD v4.toNat (S_FoldStep.mk 0 0 false)).f2)]), (39, .d (.sl 3 (a0.f2.map cS_FoldStep))), (40, dI (a0.f2.length : Int)), (41, dI v4)] [(0, 0 ≤ v4 ∧ (a0.f2.map cS_FoldStep)[v4.toNat]? = some (cS_FoldStep (a0.f2.getD v4.toNat (S_FoldStep.mk 0 0 false))))] 3 (by kernel_rfl) (idx_ok (d := (S_FoldStep.mk 0 0 false)) cS_FoldStep hp1) ?_
          refine T_seqk ?_
          obtain ⟨z1, hz3, h⟩ := lett_ok h
          refine T_region [(7, { rw := some (dB z1) })] [3, 5, 39, 40, 41, 52] [] [(3, .box [dI v1, dI v2, .d (.sl 1 (v3.map (cL 4 cS_FoldLeaf)))]), (5, .box [dI ((a0.f2.getD v4.toNat (S_FoldStep.mk 0 0 false)).f0), dI ((a0.f2.getD v4.toNat (S_FoldStep.mk 0 0 false)).f1), dB ((a0.f2.getD v4.toNat (S_FoldStep.mk 0 0 false)).f2)]), (39, .d (.sl 3 (a0.f2.map cS_FoldStep))), (40, dI (a0.f2.length : Int)), (41, dI v4), (52, dB z1)] [(4, ((((decide (((a0.f2.getD v4.toNat (S_FoldStep.mk 0 0 false)).f0) < (0 : Int))) == false) && true) = true → True)), (0, ((((decide (((a0.f2.getD v4.toNat (S_FoldStep.mk 0 0 false)).f0) < (0 : Int))) == false) && true) = true → True)), (0, ((((decide (((a0.f2.getD v4.toNat (S_FoldStep.mk 0 0 false)).f0) < (0 : Int))) == false) && true) = true → True)), (0, (True) ∧ AVdB (bif (decide (((a0.f2.getD v4.toNat (S_FoldStep.mk 0 0 false)).f0) < (0 : Int))) then true else (decide (((a0.f2.getD v4.toNat (S_FoldStep.mk 0 0 false)).f0) > (3 : Int)))) = dB z1)] 0 (by kernel_rfl) (⟨(fun hg => trivial), (fun hg => trivial), (fun hg => trivial), ⟨trivial, (by subst hz3; rfl)⟩⟩) ?_
          refine T_cond z1 (by kernel_rfl) (fun hc => ?_) (fun hc => ?_)
          · have h := cond_tt hc h
            refine T_region [] [2] [] [(2, dI (14 : Int))] [] 1 (by kernel_rfl) (trivial) ?_
            obtain hs := Option.some.inj h; subst hs
            have h := callE_esc hk1
            obtain hs := Option.some.inj h; subst hs
            refine T_ret fun a w hm => then_ret (inBlock_ret (then_ret (then_ret (inBlock_ret (then_ret (then_ret (T_return (fr' := [(2, dI (14 : Int))]) [2] (by kernel_rfl) [.keep [2]] (by kernel_rfl) (by kernel_rfl) (by kernel_rfl) (by show _ = _; kernel_rfl) (by exact trivial) a w hm)))))))
          · have h := cond_ff hc h
            refine T_skip fun a w hm => then_norm (((?_ : T Try.prog e 68 _ _ _) a w hm))
            refine T_seqk ?_
            obtain ⟨y1, hy2, h⟩ := call_ok h
            obtain ⟨z2, hz4, h⟩ := lett_ok h
            refine T_drawX mixed 20 (.take 0 (.all (.alt 1 (.take 2 (.take 3 (.all (.alt 4 (.all (.alt 5 (.all (.alt 6 (.all (.alt 7 (.all (.alt 8 (.all (.alt 9 (.all (.alt 10 .done .stop)) .stop)) .stop)) .stop)) (.alt 7 (.all (.alt 6 (.all (.alt 8 (.all (.alt 9 (.all (.alt 10 .done .stop)) .stop)) .stop)) .stop)) .stop))) (.alt 6 (.all (.alt 5 (.all (.alt 7 (.all (.alt 8 (.all (.alt 9 (.all (.alt 10 .done .stop)) .stop)) .stop)) .stop)) (.alt 7 (.all (.alt 5 (.all (.alt 8 (.all (.alt 9 (.all (.alt 10 .done .stop)) .stop)) .stop)) (.alt 8 (.all (.alt 5 (.all (.alt 9 (.all (.alt 10 .done .stop)) .stop)) .stop)) .stop))) .stop))) (.alt 7 (.all (.alt 5 (.all (.alt 6 (.all (.alt 8 (.all (.alt 9 (.all (.alt 10 .done .stop)) .stop)) .stop)) .stop)) (.alt 6 (.all (.alt 5 (.all (.alt 8 (.all (.alt 9 (.all (.alt 10 .done .stop)) .stop)) .stop)) (.alt 8 (.all (.alt 5 (.all (.alt 9 (.all (.alt 10 .done .stop)) .stop)) .stop)) .stop))) .stop))) .stop)))) (.alt 6 (.all (.alt 4 (.all (.alt 5 (.all (.alt 7 (.all (.alt 8 (.all (.alt 9 (.all (.alt 10 .done .stop)) .stop)) .stop)) .stop)) (.alt 7 (.all (.alt 5 (.all (.alt 8 (.all (.alt 9 (.all (.alt 10 .done .stop)) .stop)) .stop)) (.alt 8 (.all (.alt 5 (.all (.alt 9 (.all (.alt 10 .done .stop)) .stop)) .stop)) .stop))) .stop))) (.alt 7 (.all (.alt 4 (.all (.alt 5 (.all (.alt 8 (.all (.alt 9 (.all (.alt 10 .done .stop)) .stop)) .stop)) (.alt 8 (.all (.alt 5 (.all (.alt 9 (.all (.alt 10 .done .stop)) .stop)) .stop)) .stop))) (.alt 8 (.all (.alt 4 (.all (.alt 5 (.all (.alt 9 (.all (.alt 10 .done .stop)) .stop)) .stop)) .stop)) .stop))) .stop))) (.alt 7 (.all (.alt 4 (.all (.alt 5 (.all (.alt 6 (.all (.alt 8 (.all (.alt 9 (.all (.alt 10 .done .stop)) .stop)) .stop)) .stop)) (.alt 6 (.all (.alt 5 (.all (.alt 8 (.all (.alt 9 (.all (.alt 10 .done .stop)) .stop)) .stop)) (.alt 8 (.all (.alt 5 (.all (.alt 9 (.all (.alt 10 .done .stop)) .stop)) .stop)) .stop))) .stop))) (.alt 6 (.all (.alt 4 (.all (.alt 5 (.all (.alt 8 (.all (.alt 9 (.all (.alt 10 .done .stop)) .stop)) .stop)) (.alt 8 (.all (.alt 5 (.all (.alt 9 (.all (.alt 10 .done .stop)) .stop)) .stop)) .stop))) (.alt 8 (.all (.alt 4 (.all (.alt 5 (.all (.alt 9 (.all (.alt 10 .done .stop)) .stop)) .stop)) .stop)) .stop))) .stop))) .stop)))))) .stop))) ([0, 1, 2, 4, 8, 24, 8, 8, 200, 296, 520], [0, 1, 2, 4, 8, 24, 8, 8, 200, 296, 520]) 13 [(8, { res := dI y1 }), (10, { rw := some (dB z2) })] [3, 5, 39, 40, 41, 63] [] [(3, .box [dI v1, dI v2, .d (.sl 1 (v3.map (cL 4 cS_FoldLeaf)))]), (5, .box [dI ((a0.f2.getD v4.toNat (S_FoldStep.mk 0 0 false)).f0), dI ((a0.f2.getD v4.toNat (S_FoldStep.mk 0 0 false)).f1), dB ((a0.f2.getD v4.toNat (S_FoldStep.mk 0 0 false)).f2)]), (39, .d (.sl 3 (a0.f2.map cS_FoldStep))), (40, dI (a0.f2.length : Int)), (41, dI v4), (63, dB z2)] ((fun (o4 : Prop) => fun (o5 : Prop) => fun (o6 : Prop) => fun (o7 : Prop) => fun (o8 : Prop) => fun (o9 : Prop) => fun (o10 : Prop) => [(4, o4), (0, o5), (0, o6), (0, o7), (0, o8), (0, o9), (0, o10), (0, o7), (0, o6), (0, o8), (0, o9), (0, o10), (0, o6), (0, o5), (0, o7), (0, o8), (0, o9), (0, o10), (0, o7), (0, o5), (0, o8), (0, o9), (0, o10), (0, o8), (0, o5), (0, o9), (0, o10), (0, o7), (0, o5), (0, o6), (0, o8), (0, o9), (0, o10), (0, o6), (0, o5), (0, o8), (0, o9), (0, o10), (0, o8), (0, o5), (0, o9), (0, o10), (0, o6), (0, o4), (0, o5), (0, o7), (0, o8), (0, o9), (0, o10), (0, o7), (0, o5), (0, o8), (0, o9), (0, o10), (0, o8), (0, o5), (0, o9), (0, o10), (0, o7), (0, o4), (0, o5), (0, o8), (0, o9), (0, o10), (0, o8), (0, o5), (0, o9), (0, o10), (0, o8), (0, o4), (0, o5), (0, o9), (0, o10), (0, o7), (0, o4), (0, o5), (0, o6), (0, o8), (0, o9), (0, o10), (0, o6), (0, o5), (0, o8), (0, o9), (0, o10), (0, o8), (0, o5), (0, o9), (0, o10), (0, o6), (0, o4), (0, o5), (0, o8), (0, o9), (0, o10), (0, o8), (0, o5), (0, o9), (0, o10), (0, o8), (0, o4), (0, o5), (0, o9), (0, o10)]) (((((decide (((a0.f2.getD v4.toNat (S_FoldStep.mk 0 0 false)).f1) < (1 : Int))) == false) && true) = true → True)) (((((decide (((a0.f2.getD v4.toNat (S_FoldStep.mk 0 0 false)).f1) < (1 : Int))) == false) && true) = true → True)) (((((decide (((a0.f2.getD v4.toNat (S_FoldStep.mk 0 0 false)).f1) < (1 : Int))) == false) && true) = true → True)) (((((decide (((a0.f2.getD v4.toNat (S_FoldStep.mk 0 0 false)).f1) < (1 : Int))) == false) && true) = true → True)) (((((decide (((a0.f2.getD v4.toNat (S_FoldStep.mk 0 0 false)).f1) < (1 : Int))) == false) && true) = true → ACall Try.prog 63 [.agg (cS_fold_sheet (S_fold_sheet.mk v1 v2 v3)), .agg (cS_FoldStep (S_FoldStep.mk ((a0.f2.getD v4.toNat (S_FoldStep.mk 0 0 false)).f0) ((a0.f2.getD v4.toNat (S_FoldStep.mk 0 0 false)).f1) ((a0.f2.getD v4.toNat (S_FoldStep.mk 0 0 false)).f2)))] [] (dI y1) [])) (((((decide (((a0.f2.getD v4.toNat (S_FoldStep.mk 0 0 false)).f1) < (1 : Int))) == false) && true) = true → True)) ((True) ∧ AVdB (bif (decide (((a0.f2.getD v4.toNat (S_FoldStep.mk 0 0 false)).f1) < (1 : Int))) then true else (decide (((a0.f2.getD v4.toNat (S_FoldStep.mk 0 0 false)).f1) ≥ y1))) = dB z2)) 0 (by kernel_rfl) (by kernel_rfl) (by kernel_rfl) (have p4 := (fun hg => trivial); have p5 := (fun hg => trivial); have p6 := (fun hg => trivial); have p7 := (fun hg => trivial); have p8 := (fun hg => fold_sheet_extent_ok (gcall_ok hg hy2)); have p9 := (fun hg => trivial); have p10 := ⟨trivial, (by subst hz4; rfl)⟩; ⟨p4, p5, p6, p7, p8, p9, p10, p7, p6, p8, p9, p10, p6, p5, p7, p8, p9, p10, p7, p5, p8, p9, p10, p8, p5, p9, p10, p7, p5, p6, p8, p9, p10, p6, p5, p8, p9, p10, p8, p5, p9, p10, p6, p4, p5, p7, p8, p9, p10, p7, p5, p8, p9, p10, p8, p5, p9, p10, p7, p4, p5, p8, p9, p10, p8, p5, p9, p10, p8, p4, p5, p9, p10, p7, p4, p5, p6, p8, p9, p10, p6, p5, p8, p9, p10, p8, p5, p9, p10, p6, p4, p5, p8, p9, p10, p8, p5, p9, p10, p8, p4, p5, p9, p10⟩) ?_
            refine T_cond z2 (by kernel_rfl) (fun hc => ?_) (fun hc => ?_)
            · have h := cond_tt hc h
              refine T_region [] [2] [] [(2, dI (3 : Int))] [] 1 (by kernel_rfl) (trivial) ?_
              obtain hs := Option.some.inj h; subst hs
              have h := callE_esc hk1
              obtain hs := Option.some.inj h; subst hs
              refine T_ret fun a w hm => then_ret (inBlock_ret (then_ret (then_ret (inBlock_ret (then_ret (then_ret (T_return (fr' := [(2, dI (3 : Int))]) [2] (by kernel_rfl) [.keep [2]] (by kernel_rfl) (by kernel_rfl) (by kernel_rfl) (by show _ = _; kernel_rfl) (by exact trivial) a w hm)))))))
            · have h := cond_ff hc h
              refine T_skip fun a w hm => then_norm (((?_ : T Try.prog e 68 _ _ _) a w hm))
              obtain ⟨y2, hy3, h⟩ := call_ok h
              refine T_region_end [(2, { res := .agg (cS_fold_sheet y2) })] [3, 39, 40, 41] [] [(3, bx_fold_sheet y2), (39, .d (.sl 3 (a0.f2.map cS_FoldStep))), (40, dI (a0.f2.length : Int)), (41, dI v4)] [(2, ACall Try.prog 64 [.agg (cS_fold_sheet (S_fold_sheet.mk v1 v2 v3)), .agg (cS_FoldStep (S_FoldStep.mk ((a0.f2.getD v4.toNat (S_FoldStep.mk 0 0 false)).f0) ((a0.f2.getD v4.toNat (S_FoldStep.mk 0 0 false)).f1) ((a0.f2.getD v4.toNat (S_FoldStep.mk 0 0 false)).f2)))] [] (.agg (cS_fold_sheet y2)) [])] 1 (by kernel_rfl) (fold_sheet_fold_ok hy3) fun a w hm => inBlock_norm (then_norm (((?_ : T Try.prog e 68 _ _ _) a w hm)))
              refine T_region_end [] [3, 39, 40, 41] [] [(3, bx_fold_sheet y2), (39, .d (.sl 3 (a0.f2.map cS_FoldStep))), (40, dI (a0.f2.length : Int)), (41, dI (IntKind.i64.wrap (v4 + (1 : Int))))] [] 2 (by kernel_rfl) (trivial) fun a w hm => then_norm (⟨(y2.f0, y2.f1, y2.f2, IntKind.i64.wrap (v4 + (1 : Int))), h, hm.co (cs := [.keep [3, 39, 40, 41]]) (by show _ = _; kernel_rfl)⟩)
        · have h := cond_ff hc h
          obtain hs := Option.some.inj h; subst hs
          refine T_exit fun a w hm => then_exit (then_exit (inBlock_exit (then_norm (⟨_, rfl, hm.co (cs := [.keep []]) (by show _ = _; kernel_rfl)⟩))))
      · skip
        refine fun a w hm => then_norm (((?_ : T Try.prog e 68 _ _ _) a w hm))
        refine T_region [] [2] [] [(2, dI (0 : Int))] [] 1 (by kernel_rfl) (trivial) ?_
        obtain hs := Option.some.inj h; subst hs
        refine T_ret fun a w hm => T_return (fr' := [(2, dI (0 : Int))]) [2] (by kernel_rfl) [.keep [2]] (by kernel_rfl) (by kernel_rfl) (by kernel_rfl) (by show _ = _; kernel_rfl) (by exact trivial) a w hm

theorem fold_after_ok {F : Nat} {a0 : S_FoldScheme} {a1 : Int} {r : S_fold_sheet × Int} (h : fold_after F a0 a1 = some r) : ACall Try.prog 65 [.agg (cS_FoldScheme a0), .d (.v (.int .i64 a1))] [] (.tup [.agg (cS_fold_sheet r.1), .d (.v (.int .i64 r.2))]) [] := by
  rw [fold_after] at h
  refine ACall.intro (N := 42) Try.func65 rfl rfl rfl rfl rfl fun e => ?_
  refine T_region [] [1, 2, 4] [] [(1, dI a1), (2, bx_FoldScheme a0), (4, .box [dI 0, dI 0, oW2 []])] [] 3 (by kernel_rfl) (trivial) ?_
  refine T_seqk ?_
  obtain ⟨y2, hy1, h⟩ := call_ok h
  refine T_region [(1, { res := dI y2 })] [1, 2, 4, 6] [] [(1, dI a1), (2, bx_FoldScheme a0), (4, .box [dI 0, dI 0, oW2 []]), (6, dI y2)] [(1, ACall Try.prog 43 [.agg (cS_FoldScheme a0)] [] (dI y2) [])] 1 (by kernel_rfl) (fold_Check_ok hy1) ?_
  refine T_region [] [1, 2, 4, 6, 13] [] [(1, dI a1), (2, bx_FoldScheme a0), (4, .box [dI 0, dI 0, oW2 []]), (6, dI y2), (13, dB (y2 != (0 : Int)))] [] 2 (by kernel_rfl) (trivial) ?_
  refine T_cond (y2 != (0 : Int)) (by kernel_rfl) (fun hc => ?_) (fun hc => ?_)
  · have h := cond_tt hc h
    refine T_region [(0, { take := [0] })] [4, 5] [.nilc 4 2 104 1, .keep [4, 5]] [(4, .box [dI 0, dI 0, oW2 []]), (5, dI y2)] [] 4 (by kernel_rfl) (trivial) ?_
    obtain hs := Option.some.inj h; subst hs
    refine T_ret fun a w hm => then_ret (T_returnC (fr' := [(4, .box [dI 0, dI 0, .fz 1 ([].map (cL 4 cS_FoldLeaf))]), (5, dI y2)]) (ts := [42, 5]) (N' := 43) (fr2 := [(42, .agg (cS_fold_sheet (S_fold_sheet.mk 0 0 [])))] ++ [(4, .box [dI 0, dI 0, .fz 1 ([].map (cL 4 cS_FoldLeaf))]), (5, dI y2)]) [.frz (4, 3), .keep [4, 5]] (by kernel_rfl) (by kernel_rfl) (by kernel_rfl) (by kernel_rfl) (by show _ = _; kernel_rfl) (by exact trivial) a w hm)
  · have h := cond_ff hc h
    refine T_skip fun a w hm => then_norm (((?_ : T Try.prog e 42 _ _ _) a w hm))
    refine T_seqk ?_
    refine T_region [(6, { rw := some (dI (a0.f2.length : Int)) })] [1, 2, 4, 24] [] [(1, dI a1), (2, bx_FoldScheme a0), (4, .box [dI 0, dI 0, oW2 []]), (24, dB (bif (decide (a1 < (0 : Int))) then true else (decide (a1 > (a0.f2.length : Int)))))] [(3, ((((decide (a1 < (0 : Int))) == false) && true) = true → True)), (0, ((((decide (a1 < (0 : Int))) == false) && true) = true → True)), (0, ((((decide (a1 < (0 : Int))) == false) && true) = true → True)), (0, ((((decide (a1 < (0 : Int))) == false) && true) = true → True ∧ AVdI ((a0.f2.map cS_FoldStep).length : Int) = dI (a0.f2.length : Int))), (0, ((((decide (a1 < (0 : Int))) == false) && true) = true → True))] 1 (by kernel_rfl) (⟨(fun hg => trivial), (fun hg => trivial), (fun hg => trivial), (fun hg => len_ok cS_FoldStep), (fun hg => trivial)⟩) ?_
    refine T_cond (bif (decide (a1 < (0 : Int))) then true else (decide (a1 > (a0.f2.length : Int)))) (by kernel_rfl) (fun hc => ?_) (fun hc => ?_)
    · have h := cond_tt hc h
      refine T_region [(0, { take := [0] })] [4, 5] [.nilc 4 2 104 1, .keep [4, 5]] [(4, .box [dI 0, dI 0, oW2 []]), (5, dI (3 : Int))] [] 3 (by kernel_rfl) (trivial) ?_
      obtain hs := Option.some.inj h; subst hs
      refine T_ret fun a w hm => then_ret (T_returnC (fr' := [(4, .box [dI 0, dI 0, .fz 1 ([].map (cL 4 cS_FoldLeaf))]), (5, dI (3 : Int))]) (ts := [42, 5]) (N' := 43) (fr2 := [(42, .agg (cS_fold_sheet (S_fold_sheet.mk 0 0 [])))] ++ [(4, .box [dI 0, dI 0, .fz 1 ([].map (cL 4 cS_FoldLeaf))]), (5, dI (3 : Int))]) [.frz (4, 3), .keep [4, 5]] (by kernel_rfl) (by kernel_rfl) (by kernel_rfl) (by kernel_rfl) (by show _ = _; kernel_rfl) (by exact trivial) a w hm)
    · have h := cond_ff hc h
      refine T_skip fun a w hm => then_norm (((?_ : T Try.prog e 42 _ _ _) a w hm))
      obtain ⟨y3, hy2, h⟩ := call_ok h
      refine T_region [(1, { res := .agg (cS_fold_sheet y3) })] [1, 2, 4, 7] [] [(1, dI a1), (2, bx_FoldScheme a0), (4, .box [dI 0, dI 0, oW2 []]), (7, bx_fold_sheet y3)] [(1, ACall Try.prog 62 [.agg (cS_FoldScheme a0)] [] (.agg (cS_fold_sheet y3)) [])] 2 (by kernel_rfl) (fold_flat_ok hy2) ?_
      refine T_seqk ?_
      obtain ⟨hp1, h⟩ := chk_ok h
      refine T_region [(3, { rw := some (.d (.sl 3 (((a0.f2.drop (0 : Int).toNat).take (a1.toNat - (0 : Int).toNat)).map cS_FoldStep))) }), (4, { rw := some (dI (((a0.f2.drop (0 : Int).toNat).take (a1.toNat - (0 : Int).toNat)).length : Int)) })] [4, 7, 31, 32, 33] [] [(4, .box [dI 0, dI 0, oW2 []]), (7, bx_fold_sheet y3), (31, .d (.sl 3 (((a0.f2.drop (0 : Int).toNat).take (a1.toNat - (0 : Int).toNat)).map cS_FoldStep))), (32, dI (((a0.f2.drop (0 : Int).toNat).take (a1.toNat - (0 : Int).toNat)).length : Int)), (33, dI (0 : Int))] [(3, (0 ≤ (0 : Int) ∧ (0 : Int) ≤ a1 ∧ a1 ≤ ((a0.f2.map cS_FoldStep).length : Int)) ∧ AV.d (.sl 3 (((a0.f2.map cS_FoldStep).drop (0 : Int).toNat).take (a1.toNat - (0 : Int).toNat))) = .d (.sl 3 (((a0.f2.drop (0 : Int).toNat).take (a1.toNat - (0 : Int).toNat)).map cS_FoldStep))), (0, True ∧ AVdI ((((a0.f2.drop (0 : Int).toNat).take (a1.toNat - (0 : Int).toNat)).map cS_FoldStep).length : Int) = dI (((a0.f2.drop (0 : Int).toNat).take (a1.toNat - (0 : Int).toNat)).length : Int))] 1 (by kernel_rfl) (⟨cutH cS_FoldStep hp1, len_ok cS_FoldStep⟩) ?_
      refine T_joinct h (fun (p : Int × Int × (List (List S_FoldLeaf))) => [(4, .box [dI 0, dI 0, oW2 []]), (7, .box [dI p.1, dI p.2.1, .d (.sl 1 (p.2.2.map (cL 4 cS_FoldLeaf)))])]) (fun s h => ?_) (fun s h => ?_)
      · refine T_co [.keep [4, 7, 31, 32, 33]] ((fun (p : Int × Int × (List (List S_FoldLeaf)) × Int) => [(4, .box [dI 0, dI 0, oW2 []]), (7, .box [dI p.1, dI p.2.1, .d (.sl 1 (p.2.2.1.map (cL 4 cS_FoldLeaf)))]), (31, .d (.sl 3 (((a0.f2.drop (0 : Int).toNat).take (a1.toNat - (0 : Int).toNat)).map cS_FoldStep))), (32, dI (((a0.f2.drop (0 : Int).toNat).take (a1.toNat - (0 : Int).toNat)).length : Int)), (33, dI p.2.2.2)]) (y3.f0, y3.f1, y3.f2, (0 : Int))) (by show _ = _; kernel_rfl) ?_
        refine T_block ?_
        refine T_loopF (ι := Int × Int × (List (List S_FoldLeaf)) × Int) (fun (p : Int × Int × (List (List S_FoldLeaf)) × Int) => [(4, .box [dI 0, dI 0, oW2 []]), (7, .box [dI p.1, dI p.2.1, .d (.sl 1 (p.2.2.1.map (cL 4 cS_FoldLeaf)))]), (31, .d (.sl 3 (((a0.f2.drop (0 : Int).toNat).take (a1.toNat - (0 : Int).toNat)).map cS_FoldStep))), (32, dI (((a0.f2.drop (0 : Int).toNat).take (a1.toNat - (0 : Int).toNat)).length : Int)), (33, dI p.2.2.2)]) (fun n p => fold_after_L0 F a0 a1 n p.1 p.2.1 p.2.2.1 p.2.2.2 = some s) (fun i hh => by simp [fold_after_L0] at hh) (fun n p h => ?_) F (y3.f0, y3.f1, y3.f2, (0 : Int)) h
        obtain ⟨v1, v2, v3, v4⟩ := p
        have h : fold_after_L0 F a0 a1 (n + 1) v1 v2 v3 v4 = some s := h
        rw [fold_after_L0] at h
        refine T_region [] [4, 7, 31, 32, 33, 34] [] [(4, .box [dI 0, dI 0, oW2 []]), (7, .box [dI v1, dI v2, .d (.sl 1 (v3.map (cL 4 cS_FoldLeaf)))]), (31, .d (.sl 3 (((a0.f2.drop (0 : Int).toNat).take (a1.toNat - (0 : Int).toNat)).map cS_FoldStep))), (32, dI (((a0.f2.drop (0 : Int).toNat).take (a1.toNat - (0 : Int).toNat)).length : Int)), (33, dI v4), (34, dB (decide (v4 < (((a0.f2.drop (0 : Int).toNat).take (a1.toNat - (0 : Int).toNat)).length : Int))))] [] 1 (by kernel_rfl) (trivial) ?_
        refine T_seqk ?_
        refine T_cond (decide (v4 < (((a0.f2.drop (0 : Int).toNat).take (a1.toNat - (0 : Int).toNat)).length : Int))) (by kernel_rfl) (fun hc => ?_) (fun hc => ?_)
        · have h := cond_tt hc h
          refine T_skip fun a w hm => then_norm (((?_ : T Try.prog e 42 _ _ _) a w hm))
          refine T_seqk ?_
          refine T_block ?_
          obtain ⟨hp2, h⟩ := chk_ok h
          refine T_region [(0, { cs := cS_FoldStep (((a0.f2.drop (0 : Int).toNat).take (a1.toNat - (0 : Int).toNat)).getD v4.toNat (S_FoldStep.mk 0 0 false)) })] [4, 7, 9, 31, 32, 33] [] [(4, .box [dI 0, dI 0, oW2 []]), (7, .box [dI v1, dI v2, .d (.sl 1 (v3.map (cL 4 cS_FoldLeaf)))]), (9, .box [dI ((((a0.f2.drop (0 : Int).toNat).take (a1.toNat - (0 : Int).toNat)).getD v4.toNat (S_FoldStep.mk 0 0 false)).f0), dI ((((a0.f2.drop (0 : Int).toNat).take (a1.toNat - (0 : Int).toNat)).getD v4.toNat (S_FoldStep.mk 0 0 false)).f1), dB ((((a0.f2.drop (0 : Int).toNat).take (a1.toNat - (0 : Int).toNat)).getD v4.toNat (S_FoldStep.mk 0 0 false)).f2)]), (31, .d (.sl 3 (((a0.f2.drop (0 : Int).toNat).take (a1.toNat - (0 : Int).toNat)).map cS_FoldStep))), (32, dI (((a0.f2.drop (0 : Int).toNat).take (a1.toNat - (0 : Int).toNat)).length : Int)), (33, dI v4)] [(0, 0 ≤ v4 ∧ (((a0.f2.drop (0 : Int).toNat).take (a1.toNat - (0 : Int).toNat)).map cS_FoldStep)[v4.toNat]? = some (cS_FoldStep (((a0.f2.drop (0 : Int).toNat).take (a1.toNat - (0 : Int).toNat)).getD v4.toNat (S_FoldStep.mk 0 0 false))))] 3 (by kernel_rfl) (idx_ok (d := (S_FoldStep.mk 0 0 false)) cS_FoldStep hp2) ?_
          obtain ⟨y1, hy3, h⟩ := call_ok h
          refine T_region_end [(2, { res := .agg (cS_fold_sheet y1) })] [4, 7, 31, 32, 33] [] [(4, .box [dI 0, dI 0, oW2 []]), (7, bx_fold_sheet y1), (31, .d (.sl 3 (((a0.f2.drop (0 : Int).toNat).take (a1.toNat - (0 : Int).toNat)).map cS_FoldStep))), (32, dI (((a0.f2.drop (0 : Int).toNat).take (a1.toNat - (0 : Int).toNat)).length : Int)), (33, dI v4)] [(2, ACall Try.prog 64 [.agg (cS_fold_sheet (S_fold_sheet.mk v1 v2 v3)), .agg (cS_FoldStep (S_FoldStep.mk ((((a0.f2.drop (0 : Int).toNat).take (a1.toNat - (0 : Int).toNat)).getD v4.toNat (S_FoldStep.mk 0 0 false)).f0) ((((a0.f2.drop (0 : Int).toNat).take (a1.toNat - (0 : Int).toNat)).getD v4.toNat (S_FoldStep.mk 0 0 false)).f1) ((((a0.f2.drop (0 : Int).toNat).take (a1.toNat - (0 : Int).toNat)).getD v4.toNat (S_FoldStep.mk 0 0 false)).f2)))] [] (.agg (cS_fold_sheet y1)) [])] 1 (by kernel_rfl) (fold_sheet_fold_ok hy3) fun a w hm => inBlock_norm (then_norm (((?_ : T Try.prog e 42 _ _ _) a w hm)))
          refine T_region_end [] [4, 7, 31, 32, 33] [] [(4, .box [dI 0, dI 0, oW2 []]), (7, bx_fold_sheet y1), (31, .d (.sl 3 (((a0.f2.drop (0 : Int).toNat).take (a1.toNat - (0 : Int).toNat)).map cS_FoldStep))), (32, dI (((a0.f2.drop (0 : Int).toNat).take (a1.toNat - (0 : Int).toNat)).length : Int)), (33, dI (IntKind.i64.wrap (v4 + (1 : Int))))] [] 2 (by kernel_rfl) (trivial) fun a w hm => then_norm (⟨(y1.f0, y1.f1, y1.f2, IntKind.i64.wrap (v4 + (1 : Int))), h, hm.co (cs := [.keep [4, 7, 31, 32, 33]]) (by show _ = _; kernel_rfl)⟩)
        · have h := cond_ff hc h
          obtain hs := Option.some.inj h; subst hs
          refine T_exit fun a w hm => then_exit (then_exit (inBlock_exit (then_norm (hm.co (cs := [.keep [4, 7]]) (by show _ = _; kernel_rfl)))))
      · obtain ⟨v5, v6, v7⟩ := s
        try dsimp only at h
        refine fun a w hm => then_norm (((?_ : T Try.prog e 42 _ _ _) a w hm))
        refine T_region [] [4, 5] [] [(4, .box [dI v5, dI v6, .d (.sl 1 (v7.map (cL 4 cS_FoldLeaf)))]), (5, dI (0 : Int))] [] 3 (by kernel_rfl) (trivial) ?_
        obtain hs := Option.some.inj h; subst hs
        refine T_ret fun a w hm => T_returnC (fr' := [(4, .box [dI v5, dI v6, .d (.sl 1 (v7.map (cL 4 cS_FoldLeaf)))]), (5, dI (0 : Int))]) (ts := [42, 5]) (N' := 43) (fr2 := [(42, .agg (cS_fold_sheet (S_fold_sheet.mk v5 v6 v7)))] ++ [(4, .box [dI v5, dI v6, .d (.sl 1 (v7.map (cL 4 cS_FoldLeaf)))]), (5, dI (0 : Int))]) [.keep [4, 5]] (by kernel_rfl) (by kernel_rfl) (by kernel_rfl) (by kernel_rfl) (by show _ = _; kernel_rfl) (by exact trivial) a w hm

theorem fold_folded_ok {F : Nat} {a0 : S_FoldScheme} {r : (List S_FoldLeaf) × Int × Int} (h : fold_folded F a0 = some r) : ACall Try.prog 45 [.agg (cS_FoldScheme a0)] [] (.tup [.d (.sl 4 (r.1.map cS_FoldLeaf)), .d (.v (.int .i64 r.2.1)), .d (.v (.int .i64 r.2.2))]) [] := by
  rw [fold_folded] at h
  refine ACall.intro (N := 45) Try.func45 rfl rfl rfl rfl rfl fun e => ?_
  refine T_region [] [1] [] [(1, bx_FoldScheme a0)] [] 4 (by kernel_rfl) (trivial) ?_
  obtain ⟨y1, hy1, h⟩ := call_ok h
  refine T_region [(3, { rw := some (dI (a0.f2.length : Int)) }), (4, { res := .tup [.agg (cS_fold_sheet y1.1), dI y1.2] })] [1, 5, 6] [] [(1, bx_FoldScheme a0), (5, bx_fold_sheet y1.1), (6, dI y1.2)] [(3, True ∧ AVdI ((a0.f2.map cS_FoldStep).length : Int) = dI (a0.f2.length : Int)), (0, ACall Try.prog 65 [.agg (cS_FoldScheme a0), dI (a0.f2.length : Int)] [] (.tup [.agg (cS_fold_sheet y1.1), dI y1.2]) [])] 6 (by kernel_rfl) (⟨len_ok cS_FoldStep, fold_after_ok hy1⟩) ?_
  refine T_seqk ?_
  refine T_region [] [1, 5, 6, 17] [] [(1, bx_FoldScheme a0), (5, bx_fold_sheet y1.1), (6, dI y1.2), (17, dB (y1.2 != (0 : Int)))] [] 2 (by kernel_rfl) (trivial) ?_
  refine T_cond (y1.2 != (0 : Int)) (by kernel_rfl) (fun hc => ?_) (fun hc => ?_)
  · have h := cond_tt hc h
    refine T_region [] [2, 3, 4] [] [(2, oW3 []), (3, dI (0 : Int)), (4, dI y1.2)] [] 4 (by kernel_rfl) (trivial) ?_
    obtain hs := Option.some.inj h; subst hs
    refine T_ret fun a w hm => then_ret (T_return (fr' := [(2, .d (.sl 4 ([].map cS_FoldLeaf))), (3, dI (0 : Int)), (4, dI y1.2)]) [2, 3, 4] (by kernel_rfl) [.thaw 2, .keep [2, 3, 4]] (by kernel_rfl) (by kernel_rfl) (by kernel_rfl) (by show _ = _; kernel_rfl) (by exact trivial) a w hm)
  · have h := cond_ff hc h
    refine T_skip fun a w hm => then_norm (((?_ : T Try.prog e 45 _ _ _) a w hm))
    refine T_seqk ?_
    refine T_region [] [1, 5, 26] [] [(1, bx_FoldScheme a0), (5, bx_fold_sheet y1.1), (26, dB (bif (y1.1.f0 != (1 : Int)) then true else (y1.1.f1 != (1 : Int))))] [(4, ((((y1.1.f0 != (1 : Int)) == false) && true) = true → True)), (0, ((((y1.1.f0 != (1 : Int)) == false) && true) = true → True)), (0, ((((y1.1.f0 != (1 : Int)) == false) && true) = true → True))] 1 (by kernel_rfl) (⟨(fun hg => trivial), (fun hg => trivial), (fun hg => trivial)⟩) ?_
    refine T_cond (bif (y1.1.f0 != (1 : Int)) then true else (y1.1.f1 != (1 : Int))) (by kernel_rfl) (fun hc => ?_) (fun hc => ?_)
    · have h := cond_tt hc h
      refine T_region [] [2, 3, 4] [] [(2, oW3 []), (3, dI (0 : Int)), (4, dI (9 : Int))] [] 3 (by kernel_rfl) (trivial) ?_
      obtain hs := Option.some.inj h; subst hs
      refine T_ret fun a w hm => then_ret (T_return (fr' := [(2, .d (.sl 4 ([].map cS_FoldLeaf))), (3, dI (0 : Int)), (4, dI (9 : Int))]) [2, 3, 4] (by kernel_rfl) [.thaw 2, .keep [2, 3, 4]] (by kernel_rfl) (by kernel_rfl) (by kernel_rfl) (by show _ = _; kernel_rfl) (by exact trivial) a w hm)
    · have h := cond_ff hc h
      refine T_skip fun a w hm => then_norm (((?_ : T Try.prog e 45 _ _ _) a w hm))
      refine T_region [] [1, 5, 7] [] [(1, bx_FoldScheme a0), (5, bx_fold_sheet y1.1), (7, dI (0 : Int))] [] 1 (by kernel_rfl) (trivial) ?_
      refine T_joinc h (fun (p : Int) => [(5, bx_fold_sheet y1.1), (7, dI p)]) (fun s h => ?_) (fun v1 h => ?_)
      · refine T_region [(2, { rw := some (dI (a0.f2.length : Int)) })] [1, 5, 7, 30] [] [(1, bx_FoldScheme a0), (5, bx_fold_sheet y1.1), (7, dI (0 : Int)), (30, dB (decide ((a0.f2.length : Int) > (0 : Int))))] [(2, True ∧ AVdI ((a0.f2.map cS_FoldStep).length : Int) = dI (a0.f2.length : Int))] 1 (by kernel_rfl) (len_ok cS_FoldStep) ?_
        refine T_cond (decide ((a0.f2.length : Int) > (0 : Int))) (by kernel_rfl) (fun hc => ?_) (fun hc => ?_)
        · have h := cond_tt hc h
          obtain ⟨hp1, h⟩ := chk_ok h
          obtain ⟨z1, hz1, h⟩ := lett_ok h
          obtain hs := Option.some.inj h; subst hs
          refine T_region_end [(4, { rw := some (dI (a0.f2.length : Int)) }), (6, { cs := cS_FoldStep (a0.f2.getD (IntKind.i64.wrap ((a0.f2.length : Int) - (1 : Int))).toNat (S_FoldStep.mk 0 0 false)) }), (8, { rw := some (dI z1) })] [5, 7] [] [(5, bx_fold_sheet y1.1), (7, dI z1)] [(4, True ∧ AVdI ((a0.f2.map cS_FoldStep).length : Int) = dI (a0.f2.length : Int)), (1, 0 ≤ (IntKind.i64.wrap ((a0.f2.length : Int) - (1 : Int))) ∧ (a0.f2.map cS_FoldStep)[(IntKind.i64.wrap ((a0.f2.length : Int) - (1 : Int))).toNat]? = some (cS_FoldStep (a0.f2.getD (IntKind.i64.wrap ((a0.f2.length : Int) - (1 : Int))).toNat (S_FoldStep.mk 0 0 false)))), (1, (True) ∧ AVdI ((a0.f2.getD (IntKind.i64.wrap ((a0.f2.length : Int) - (1 : Int))).toNat (S_FoldStep.mk 0 0 false)).f0) = dI z1)] 1 (by kernel_rfl) (⟨len_ok cS_FoldStep, idx_ok (d := (S_FoldStep.mk 0 0 false)) cS_FoldStep hp1, ⟨trivial, (by subst hz1; rfl)⟩⟩) fun a w hm => then_norm (hm.co (cs := [.keep [5, 7]]) (by show _ = _; kernel_rfl))
        · have h := cond_ff hc h
          obtain hs := Option.some.inj h; subst hs
          refine T_skip fun a w hm => then_norm (hm.co (cs := [.keep [5, 7]]) (by show _ = _; kernel_rfl))
      · skip
        obtain ⟨hp2, h⟩ := chk_ok h
        refine T_region [(2, { cs := (cL 4 cS_FoldLeaf) (y1.1.f2.getD (0 : Int).toNat []) })] [2, 3, 4] [] [(2, .d (.sl 4 ((y1.1.f2.getD (0 : Int).toNat []).map cS_FoldLeaf))), (3, dI v1), (4, dI (0 : Int))] [(2, 0 ≤ (0 : Int) ∧ (y1.1.f2.map (cL 4 cS_FoldLeaf))[(0 : Int).toNat]? = some ((cL 4 cS_FoldLeaf) (y1.1.f2.getD (0 : Int).toNat [])))] 5 (by kernel_rfl) (idx_ok (d := []) (cL 4 cS_FoldLeaf) hp2) ?_
        obtain hs := Option.some.inj h; subst hs
        refine T_ret fun a w hm => T_return (fr' := [(2, .d (.sl 4 ((y1.1.f2.getD (0 : Int).toNat []).map cS_FoldLeaf))), (3, dI v1), (4, dI (0 : Int))]) [2, 3, 4] (by kernel_rfl) [.keep [2, 3, 4]] (by kernel_rfl) (by kernel_rfl) (by kernel_rfl) (by show _ = _; kernel_rfl) (by exact trivial) a w hm

theorem fold_Pages_c1_ok {F : Nat} {a0 : Bool} {a1 : Bool} {c2 : Int} {c3 : Int} {c4 : Bool} {c5 : Bool} {c6 : Int} {c7 : Int} {c8 : Int} {c9 : List S_FoldStep} {c10 : List S_FoldPage} {r : Int × Int × Bool × Bool × Int × Int × Int × (List S_FoldStep) × (List S_FoldPage)} (h : fold_Pages_c1 F a0 a1 c2 c3 c4 c5 c6 c7 c8 c9 c10 = some r) : ACall Try.prog 46 [.d (.v (.bool a0)), .d (.v (.bool a1)), .bp 1000000 0, .bp 1000001 0, .bp 1000002 0, .bp 1000003 0] [.box [.d (.v (.int .i64 c2)), .d (.v (.int .i64 c3)), .d (.v (.bool c4)), .d (.v (.bool c5))], .box [.d (.v (.int .i64 c6))], .box [.d (.v (.int .i64 c7)), .d (.v (.int .i64 c8)), .d (.sl 3 (c9.map cS_FoldStep))], .box [.own 70 4 (c10.map cS_FoldPage)]] (.tup []) [.box [.d (.v (.int .i64 r.1)), .d (.v (.int .i64 r.2.1)), .d (.v (.bool r.2.2.1)), .d (.v (.bool r.2.2.2.1))], .box [.d (.v (.int .i64 r.2.2.2.2.1))], .box [.d (.v (.int .i64 r.2.2.2.2.2.1)), .d (.v (.int .i64 r.2.2.2.2.2.2.1)), .d (.sl 3 (r.2.2.2.2.2.2.2.1.map cS_FoldStep))], .box [.own 70 4 (r.2.2.2.2.2.2.2.2.map cS_FoldPage)]] := by
  rw [fold_Pages_c1] at h
  refine ACall.intro (N := 33) Try.func46 rfl rfl rfl rfl rfl fun e => ?_
  refine T_region [] [0, 1, 2, 3, 4, 5, 8, 1000000, 1000001, 1000002, 1000003] [] [(0, dB a0), (1, dB a1), (2, .bp 1000000 0), (3, .bp 1000001 0), (4, .bp 1000002 0), (5, .bp 1000003 0), (8, .box [dB a0, dI c2, dI c3, dI c6]), (1000000, .box [dI c2, dI c3, dB c4, dB c5]), (1000001, .box [dI c6]), (1000002, .box [dI c7, dI c8, .d (.sl 3 (c9.map cS_FoldStep))]), (1000003, .box [oW4 c10])] [] 9 (by kernel_rfl) (trivial) ?_
  refine T_joinc h (fun (p : Int) => [(1, dB a1), (3, .bp 1000001 0), (5, .bp 1000003 0), (8, .box [dB a0, dI p, dI c3, dI c6]), (1000000, .box [dI c2, dI c3, dB c4, dB c5]), (1000001, .box [dI c6]), (1000002, .box [dI c7, dI c8, .d (.sl 3 (c9.map cS_FoldStep))]), (1000003, .box [oW4 c10])]) (fun s h => ?_) (fun v1 h => ?_)
  · refine T_region [] [1, 2, 3, 4, 5, 8, 16, 1000000, 1000001, 1000002, 1000003] [] [(1, dB a1), (2, .bp 1000000 0), (3, .bp 1000001 0), (4, .bp 1000002 0), (5, .bp 1000003 0), (8, .box [dB a0, dI c2, dI c3, dI c6]), (16, dB a0), (1000000, .box [dI c2, dI c3, dB c4, dB c5]), (1000001, .box [dI c6]), (1000002, .box [dI c7, dI c8, .d (.sl 3 (c9.map cS_FoldStep))]), (1000003, .box [oW4 c10])] [] 1 (by kernel_rfl) (trivial) ?_
    refine T_cond a0 (by kernel_rfl) (fun hc => ?_) (fun hc => ?_)
    · have h := cond_tt hc h
      obtain hs := Option.some.inj h; subst hs
      refine T_region_end [] [1, 3, 5, 8, 1000000, 1000001, 1000002, 1000003] [] [(1, dB a1), (3, .bp 1000001 0), (5, .bp 1000003 0), (8, .box [dB a0, dI (IntKind.i64.wrap ((IntKind.i64.wrap (c7 - (1 : Int))) - c2)), dI c3, dI c6]), (1000000, .box [dI c2, dI c3, dB c4, dB c5]), (1000001, .box [dI c6]), (1000002, .box [dI c7, dI c8, .d (.sl 3 (c9.map cS_FoldStep))]), (1000003, .box [oW4 c10])] [] 8 (by kernel_rfl) (trivial) fun a w hm => then_norm (hm.co (cs := [.keep [1, 3, 5, 8, 1000000, 1000001, 1000002, 1000003]]) (by show _ = _; kernel_rfl))
    · have h := cond_ff hc h
      obtain hs := Option.some.inj h; subst hs
      refine T_skip fun a w hm => then_norm (hm.co (cs := [.keep [1, 3, 5, 8, 1000000, 1000001, 1000002, 1000003]]) (by show _ = _; kernel_rfl))
  · skip
    refine T_joinc h (fun (p : Int) => [(5, .bp 1000003 0), (8, .box [dB a0, dI v1, dI c3, dI p]), (1000000, .box [dI c2, dI c3, dB c4, dB c5]), (1000001, .box [dI c6]), (1000002, .box [dI c7, dI c8, .d (.sl 3 (c9.map cS_FoldStep))]), (1000003, .box [oW4 c10])]) (fun s h => ?_) (fun v2 h => ?_)
    · refine T_region [] [3, 5, 8, 24, 1000000, 1000001, 1000002, 1000003] [] [(3, .bp 1000001 0), (5, .bp 1000003 0), (8, .box [dB a0, dI v1, dI c3, dI c6]), (24, dB a1), (1000000, .box [dI c2, dI c3, dB c4, dB c5]), (1000001, .box [dI c6]), (1000002, .box [dI c7, dI c8, .d (.sl 3 (c9.map cS_FoldStep))]), (1000003, .box [oW4 c10])] [] 1 (by kernel_rfl) (trivial) ?_
      refine T_cond a1 (by kernel_rfl) (fun hc => ?_) (fun hc => ?_)
      · have h := cond_tt hc h
        obtain hs := Option.some.inj h; subst hs
        refine T_region_end [] [5, 8, 1000000, 1000001, 1000002, 1000003] [] [(5, .bp 1000003 0), (8, .box [dB a0, dI v1, dI c3, dI ((IntKind.i64.wrap (c6 + (2 : Int))).tmod (4 : Int))]), (1000000, .box [dI c2, dI c3, dB c4, dB c5]), (1000001, .box [dI c6]), (1000002, .box [dI c7, dI c8, .d (.sl 3 (c9.map cS_FoldStep))]), (1000003, .box [oW4 c10])] [(2, (4 : Int) ≠ 0)] 2 (by kernel_rfl) ((show (4 : Int) ≠ 0 by decide)) fun a w hm => then_norm (hm.co (cs := [.keep [5, 8, 1000000, 1000001, 1000002, 1000003]]) (by show _ = _; kernel_rfl))
      · have h := cond_ff hc h
        obtain hs := Option.some.inj h; subst hs
        refine T_skip fun a w hm => then_norm (hm.co (cs := [.keep [5, 8, 1000000, 1000001, 1000002, 1000003]]) (by show _ = _; kernel_rfl))
    · skip
      obtain ⟨hp1, h⟩ := chk_ok h
      obtain hs := Option.some.inj h; subst hs
      refine T_region_end [(2, { es := some (([(S_FoldPage.mk a0 v1 c3 v2)]).map cS_FoldPage) }), (3, { es := some ((c10 ++ ([(S_FoldPage.mk a0 v1 c3 v2)])).map cS_FoldPage) })] [1000000, 1000001, 1000002, 1000003] [] [(1000000, .box [dI c2, dI c3, dB c4, dB c5]), (1000001, .box [dI c6]), (1000002, .box [dI c7, dI c8, .d (.sl 3 (c9.map cS_FoldStep))]), (1000003, .box [.own 70 4 ((c10 ++ ([(S_FoldPage.mk a0 v1 c3 v2)])).map cS_FoldPage)])] [(2, (([(S_FoldPage.mk a0 v1 c3 v2)]).map cS_FoldPage) = (([(S_FoldPage.mk a0 v1 c3 v2)]).map cS_FoldPage)), (0, (c10.map cS_FoldPage).length + (([(S_FoldPage.mk a0 v1 c3 v2)]).map cS_FoldPage).length ≤ 4294967296 ∧ (c10.map cS_FoldPage) ++ (([(S_FoldPage.mk a0 v1 c3 v2)]).map cS_FoldPage) = ((c10 ++ ([(S_FoldPage.mk a0 v1 c3 v2)])).map cS_FoldPage))] 1 (by kernel_rfl) (⟨rfl, app_ok cS_FoldPage hp1⟩) fun a w hm => T_return (fr' := [(1000000, .box [dI c2, dI c3, dB c4, dB c5]), (1000001, .box [dI c6]), (1000002, .box [dI c7, dI c8, .d (.sl 3 (c9.map cS_FoldStep))]), (1000003, .box [.own 70 4 ((c10 ++ ([(S_FoldPage.mk a0 v1 c3 v2)])).map cS_FoldPage)])]) [] (by kernel_rfl) [.keep [1000000, 1000001, 1000002, 1000003]] (by kernel_rfl) (by kernel_rfl) (by kernel_rfl) (by show _ = _; kernel_rfl) (by exact ⟨⟨by kernel_rfl, by kernel_rfl⟩, ⟨⟨by kernel_rfl, by kernel_rfl⟩, ⟨⟨by kernel_rfl, by kernel_rfl⟩, ⟨⟨by kernel_rfl, by kernel_rfl⟩, trivial⟩⟩⟩⟩) a w hm

theorem fold_Pages_ok {F : Nat} {a0 : S_FoldScheme} {r : (List S_FoldPage) × Int} (h : fold_Pages F a0 = some r) : ACall Try.prog 24 [.agg (cS_FoldScheme a0)] [] (.tup [.d (.sl 4 (r.1.map cS_FoldPage)), .d (.v (.int .i64 r.2))]) [] := by
  rw [fold_Pages] at h
  refine ACall.intro (N := 55) Try.func24 rfl rfl rfl rfl rfl fun e => ?_
  refine T_region [] [1] [] [(1, bx_FoldScheme a0)] [] 3 (by kernel_rfl) (trivial) ?_
  obtain ⟨y1, hy1, h⟩ := call_ok h
  refine T_region [(1, { res := .tup [.d (.sl 4 (y1.1.map cS_FoldLeaf)), dI y1.2.1, dI y1.2.2] })] [1, 4, 5, 6] [] [(1, bx_FoldScheme a0), (4, .d (.sl 4 (y1.1.map cS_FoldLeaf))), (5, dI y1.2.1), (6, dI y1.2.2)] [(1, ACall Try.prog 45 [.agg (cS_FoldScheme a0)] [] (.tup [.d (.sl 4 (y1.1.map cS_FoldLeaf)), dI y1.2.1, dI y1.2.2]) [])] 7 (by kernel_rfl) (fold_folded_ok hy1) ?_
  refine T_seqk ?_
  refine T_region [] [1, 4, 5, 6, 20] [] [(1, bx_FoldScheme a0), (4, .d (.sl 4 (y1.1.map cS_FoldLeaf))), (5, dI y1.2.1), (6, dI y1.2.2), (20, dB (y1.2.2 != (0 : Int)))] [] 2 (by kernel_rfl) (trivial) ?_
  refine T_cond (y1.2.2 != (0 : Int)) (by kernel_rfl) (fun hc => ?_) (fun hc => ?_)
  · have h := cond_tt hc h
    refine T_region [] [2, 3] [] [(2, oW4 []), (3, dI y1.2.2)] [] 3 (by kernel_rfl) (trivial) ?_
    obtain hs := Option.some.inj h; subst hs
    refine T_ret fun a w hm => then_ret (T_return (fr' := [(2, .d (.sl 4 ([].map cS_FoldPage))), (3, dI y1.2.2)]) [2, 3] (by kernel_rfl) [.thaw 2, .keep [2, 3]] (by kernel_rfl) (by kernel_rfl) (by kernel_rfl) (by show _ = _; kernel_rfl) (by exact trivial) a w hm)
  · have h := cond_ff hc h
    refine T_skip fun a w hm => then_norm (((?_ : T Try.prog e 55 _ _ _) a w hm))
    obtain ⟨hp1, h⟩ := chk_ok h
    refine T_region [(0, { es := some (([(0 : Int), (2 : Int), (1 : Int), (3 : Int)]).map (cI .i64)) }), (3, { cs := (cI .i64) (([(0 : Int), (2 : Int), (1 : Int), (3 : Int)]).getD y1.2.1.toNat 0) })] [1, 4, 7] [] [(1, bx_FoldScheme a0), (4, .d (.sl 4 (y1.1.map cS_FoldLeaf))), (7, .box [dI (([(0 : Int), (2 : Int), (1 : Int), (3 : Int)]).getD y1.2.1.toNat 0)])] [(0, (([(0 : Int), (2 : Int), (1 : Int), (3 : Int)]).map (cI .i64)) = (([(0 : Int), (2 : Int), (1 : Int), (3 : Int)]).map (cI .i64))), (1, 0 ≤ y1.2.1 ∧ y1.2.1 < (([(0 : Int), (2 : Int), (1 : Int), (3 : Int)]).map (cI .i64)).length), (0, (([(0 : Int), (2 : Int), (1 : Int), (3 : Int)]).map (cI .i64))[y1.2.1.toNat]? = some ((cI .i64) (([(0 : Int), (2 : Int), (1 : Int), (3 : Int)]).getD y1.2.1.toNat 0)))] 2 (by kernel_rfl) (⟨rfl, own_idx (cI .i64) hp1, (idx_ok (d := 0) (cI .i64) hp1).2⟩) ?_
    refine T_region [] [1, 4, 7, 8] [] [(1, bx_FoldScheme a0), (4, .d (.sl 4 (y1.1.map cS_FoldLeaf))), (7, .box [dI (([(0 : Int), (2 : Int), (1 : Int), (3 : Int)]).getD y1.2.1.toNat 0)]), (8, .box [oW4 []])] [] 1 (by kernel_rfl) (trivial) ?_
    refine T_seqk ?_
    refine T_region [(1, { rw := some (dI (y1.1.length : Int)) })] [1, 7, 8, 26, 27, 28] [] [(1, bx_FoldScheme a0), (7, .box [dI (([(0 : Int), (2 : Int), (1 : Int), (3 : Int)]).getD y1.2.1.toNat 0)]), (8, .box [oW4 []]), (26, .d (.sl 4 (y1.1.map cS_FoldLeaf))), (27, dI (y1.1.length : Int)), (28, dI (0 : Int))] [(1, True ∧ AVdI ((y1.1.map cS_FoldLeaf).length : Int) = dI (y1.1.length : Int))] 1 (by kernel_rfl) (len_ok cS_FoldLeaf) ?_
    refine T_joinct h (fun (p : (List S_FoldPage)) => [(8, .box [oW4 p])]) (fun s h => ?_) (fun v7 h => ?_)
    · refine T_co [.keep [1, 7, 8, 26, 27, 28]] ((fun (p : Int × Int × (List S_FoldStep) × Int × (List S_FoldPage) × Int) => [(1, .box [dI p.1, dI p.2.1, .d (.sl 3 (p.2.2.1.map cS_FoldStep))]), (7, .box [dI p.2.2.2.1]), (8, .box [oW4 p.2.2.2.2.1]), (26, .d (.sl 4 (y1.1.map cS_FoldLeaf))), (27, dI (y1.1.length : Int)), (28, dI p.2.2.2.2.2)]) (a0.f0, a0.f1, a0.f2, (([(0 : Int), (2 : Int), (1 : Int), (3 : Int)]).getD y1.2.1.toNat 0), [], (0 : Int))) (by show _ = _; kernel_rfl) ?_
      refine T_block ?_
      refine T_loopF (ι := Int × Int × (List S_FoldStep) × Int × (List S_FoldPage) × Int) (fun (p : Int × Int × (List S_FoldStep) × Int × (List S_FoldPage) × Int) => [(1, .box [dI p.1, dI p.2.1, .d (.sl 3 (p.2.2.1.map cS_FoldStep))]), (7, .box [dI p.2.2.2.1]), (8, .box [oW4 p.2.2.2.2.1]), (26, .d (.sl 4 (y1.1.map cS_FoldLeaf))), (27, dI (y1.1.length : Int)), (28, dI p.2.2.2.2.2)]) (fun n p => fold_Pages_L0 F y1 n p.1 p.2.1 p.2.2.1 p.2.2.2.1 p.2.2.2.2.1 p.2.2.2.2.2 = some s) (fun i hh => by simp [fold_Pages_L0] at hh) (fun n p h => ?_) F (a0.f0, a0.f1, a0.f2, (([(0 : Int), (2 : Int), (1 : Int), (3 : Int)]).getD y1.2.1.toNat 0), [], (0 : Int)) h
      obtain ⟨v1, v2, v3, v4, v5, v6⟩ := p
      have h : fold_Pages_L0 F y1 (n + 1) v1 v2 v3 v4 v5 v6 = some s := h
      rw [fold_Pages_L0] at h
      refine T_region [] [1, 7, 8, 26, 27, 28, 29] [] [(1, .box [dI v1, dI v2, .d (.sl 3 (v3.map cS_FoldStep))]), (7, .box [dI v4]), (8, .box [oW4 v5]), (26, .d (.sl 4 (y1.1.map cS_FoldLeaf))), (27, dI (y1.1.length : Int)), (28, dI v6), (29, dB (decide (v6 < (y1.1.length : Int))))] [] 1 (by kernel_rfl) (trivial) ?_
      refine T_seqk ?_
      refine T_cond (decide (v6 < (y1.1.length : Int))) (by kernel_rfl) (fun hc => ?_) (fun hc => ?_)
      · have h := cond_tt hc h
        refine T_skip fun a w hm => then_norm (((?_ : T Try.prog e 55 _ _ _) a w hm))
        refine T_seqk ?_
        refine T_block ?_
        obtain ⟨hp2, h⟩ := chk_ok h
        refine T_region [(0, { cs := cS_FoldLeaf (y1.1.getD v6.toNat (S_FoldLeaf.mk 0 0 false false)) })] [1, 7, 8, 10, 26, 27, 28] [] [(1, .box [dI v1, dI v2, .d (.sl 3 (v3.map cS_FoldStep))]), (7, .box [dI v4]), (8, .box [oW4 v5]), (10, .box [dI ((y1.1.getD v6.toNat (S_FoldLeaf.mk 0 0 false false)).f0), dI ((y1.1.getD v6.toNat (S_FoldLeaf.mk 0 0 false false)).f1), dB ((y1.1.getD v6.toNat (S_FoldLeaf.mk 0 0 false false)).f2), dB ((y1.1.getD v6.toNat (S_FoldLeaf.mk 0 0 false false)).f3)]), (26, .d (.sl 4 (y1.1.map cS_FoldLeaf))), (27, dI (y1.1.length : Int)), (28, dI v6)] [(0, 0 ≤ v6 ∧ (y1.1.map cS_FoldLeaf)[v6.toNat]? = some (cS_FoldLeaf (y1.1.getD v6.toNat (S_FoldLeaf.mk 0 0 false false))))] 3 (by kernel_rfl) (idx_ok (d := (S_FoldLeaf.mk 0 0 false false)) cS_FoldLeaf hp2) ?_
        refine T_region [] [1, 7, 8, 10, 11, 26, 27, 28] [] [(1, .box [dI v1, dI v2, .d (.sl 3 (v3.map cS_FoldStep))]), (7, .box [dI v4]), (8, .box [oW4 v5]), (10, .box [dI ((y1.1.getD v6.toNat (S_FoldLeaf.mk 0 0 false false)).f0), dI ((y1.1.getD v6.toNat (S_FoldLeaf.mk 0 0 false false)).f1), dB ((y1.1.getD v6.toNat (S_FoldLeaf.mk 0 0 false false)).f2), dB ((y1.1.getD v6.toNat (S_FoldLeaf.mk 0 0 false false)).f3)]), (11, .clo 46 [.bp 10 0, .bp 7 0, .bp 1 0, .bp 8 0]), (26, .d (.sl 4 (y1.1.map cS_FoldLeaf))), (27, dI (y1.1.length : Int)), (28, dI v6)] [] 2 (by kernel_rfl) (trivial) ?_
        obtain ⟨z1, hz1, h⟩ := lett_ok h
        refine T_region [(4, { rw := some (dB z1) })] [1, 7, 8, 10, 11, 12, 26, 27, 28] [] [(1, .box [dI v1, dI v2, .d (.sl 3 (v3.map cS_FoldStep))]), (7, .box [dI v4]), (8, .box [oW4 v5]), (10, .box [dI ((y1.1.getD v6.toNat (S_FoldLeaf.mk 0 0 false false)).f0), dI ((y1.1.getD v6.toNat (S_FoldLeaf.mk 0 0 false false)).f1), dB ((y1.1.getD v6.toNat (S_FoldLeaf.mk 0 0 false false)).f2), dB ((y1.1.getD v6.toNat (S_FoldLeaf.mk 0 0 false false)).f3)]), (11, .clo 46 [.bp 10 0, .bp 7 0, .bp 1 0, .bp 8 0]), (12, dB z1), (26, .d (.sl 4 (y1.1.map cS_FoldLeaf))), (27, dI (y1.1.length : Int)), (28, dI v6)] [(4, (True) ∧ AVdB (!(((y1.1.getD v6.toNat (S_FoldLeaf.mk 0 0 false false)).f2) == ((y1.1.getD v6.toNat (S_FoldLeaf.mk 0 0 false false)).f3))) = dB z1)] 1 (by kernel_rfl) (⟨trivial, (by subst hz1; rfl)⟩) ?_
        obtain ⟨y2, hy2, h⟩ := call_ok h
        refine T_region [(4, { res := .tup [], vout := [.box [dI y2.1, dI y2.2.1, dB y2.2.2.1, dB y2.2.2.2.1], .box [dI y2.2.2.2.2.1], .box [dI y2.2.2.2.2.2.1, dI y2.2.2.2.2.2.2.1, .d (.sl 3 (y2.2.2.2.2.2.2.2.1.map cS_FoldStep))], .box [oW4 y2.2.2.2.2.2.2.2.2]], xs := [10, 7, 1, 8] })] [1, 7, 8, 10, 11, 12, 26, 27, 28] [] [(1, .box [dI y2.2.2.2.2.2.1, dI y2.2.2.2.2.2.2.1, .d (.sl 3 (y2.2.2.2.2.2.2.2.1.map cS_FoldStep))]), (7, .box [dI y2.2.2.2.2.1]), (8, .box [oW4 y2.2.2.2.2.2.2.2.2]), (10, .box [dI y2.1, dI y2.2.1, dB y2.2.2.1, dB y2.2.2.2.1]), (11, .clo 46 [.bp 10 0, .bp 7 0, .bp 1 0, .bp 8 0]), (12, dB z1), (26, .d (.sl 4 (y1.1.map cS_FoldLeaf))), (27, dI (y1.1.length : Int)), (28, dI v6)] [(4, ACall Try.prog 46 [dB z1, dB ((y1.1.getD v6.toNat (S_FoldLeaf.mk 0 0 false false)).f3), .bp 1000000 0, .bp 1000001 0, .bp 1000002 0, .bp 1000003 0] [.box [dI ((y1.1.getD v6.toNat (S_FoldLeaf.mk 0 0 false false)).f0), dI ((y1.1.getD v6.toNat (S_FoldLeaf.mk 0 0 false false)).f1), dB ((y1.1.getD v6.toNat (S_FoldLeaf.mk 0 0 false false)).f2), dB ((y1.1.getD v6.toNat (S_FoldLeaf.mk 0 0 false false)).f3)], .box [dI v4], .box [dI v1, dI v2, .d (.sl 3 (v3.map cS_FoldStep))], .box [oW4 v5]] (.tup []) [.box [dI y2.1, dI y2.2.1, dB y2.2.2.1, dB y2.2.2.2.1], .box [dI y2.2.2.2.2.1], .box [dI y2.2.2.2.2.2.1, dI y2.2.2.2.2.2.2.1, .d (.sl 3 (y2.2.2.2.2.2.2.2.1.map cS_FoldStep))], .box [oW4 y2.2.2.2.2.2.2.2.2]])] 0 (by kernel_rfl) (fold_Pages_c1_ok hy2) ?_
        obtain ⟨y3, hy3, h⟩ := call_ok h
        refine T_region_end [(9, { res := .tup [], vout := [.box [dI y3.1, dI y3.2.1, dB y3.2.2.1, dB y3.2.2.2.1], .box [dI y3.2.2.2.2.1], .box [dI y3.2.2.2.2.2.1, dI y3.2.2.2.2.2.2.1, .d (.sl 3 (y3.2.2.2.2.2.2.2.1.map cS_FoldStep))], .box [oW4 y3.2.2.2.2.2.2.2.2]], xs := [10, 7, 1, 8] })] [1, 7, 8, 26, 27, 28] [] [(1, .box [dI y3.2.2.2.2.2.1, dI y3.2.2.2.2.2.2.1, .d (.sl 3 (y3.2.2.2.2.2.2.2.1.map cS_FoldStep))]), (7, .box [dI y3.2.2.2.2.1]), (8, .box [oW4 y3.2.2.2.2.2.2.2.2]), (26, .d (.sl 4 (y1.1.map cS_FoldLeaf))), (27, dI (y1.1.length : Int)), (28, dI v6)] [(6, (2 : Int) ≠ 0), (2, ACall Try.prog 46 [dB (!z1), dB (!(y2.2.2.2.1 == ((y2.2.2.2.2.1.tmod (2 : Int)) == (1 : Int)))), .bp 1000000 0, .bp 1000001 0, .bp 1000002 0, .bp 1000003 0] [.box [dI y2.1, dI y2.2.1, dB y2.2.2.1, dB y2.2.2.2.1], .box [dI y2.2.2.2.2.1], .box [dI y2.2.2.2.2.2.1, dI y2.2.2.2.2.2.2.1, .d (.sl 3 (y2.2.2.2.2.2.2.2.1.map cS_FoldStep))], .box [oW4 y2.2.2.2.2.2.2.2.2]] (.tup []) [.box [dI y3.1, dI y3.2.1, dB y3.2.2.1, dB y3.2.2.2.1], .box [dI y3.2.2.2.2.1], .box [dI y3.2.2.2.2.2.1, dI y3.2.2.2.2.2.2.1, .d (.sl 3 (y3.2.2.2.2.2.2.2.1.map cS_FoldStep))], .box [oW4 y3.2.2.2.2.2.2.2.2]])] 0 (by kernel_rfl) (⟨(show (2 : Int) ≠ 0 by decide), fold_Pages_c1_ok hy3⟩) fun a w hm => inBlock_norm (then_norm (((?_ : T Try.prog e 55 _ _ _) a w hm)))
        refine T_region_end [] [1, 7, 8, 26, 27, 28] [] [(1, .box [dI y3.2.2.2.2.2.1, dI y3.2.2.2.2.2.2.1, .d (.sl 3 (y3.2.2.2.2.2.2.2.1.map cS_FoldStep))]), (7, .box [dI y3.2.2.2.2.1]), (8, .box [oW4 y3.2.2.2.2.2.2.2.2]), (26, .d (.sl 4 (y1.1.map cS_FoldLeaf))), (27, dI (y1.1.length : Int)), (28, dI (IntKind.i64.wrap (v6 + (1 : Int))))] [] 2 (by kernel_rfl) (trivial) fun a w hm => then_norm (⟨(y3.2.2.2.2.2.1, y3.2.2.2.2.2.2.1, y3.2.2.2.2.2.2.2.1, y3.2.2.2.2.1, y3.2.2.2.2.2.2.2.2, IntKind.i64.wrap (v6 + (1 : Int))), h, hm.co (cs := [.keep [1, 7, 8, 26, 27, 28]]) (by show _ = _; kernel_rfl)⟩)
      · have h := cond_ff hc h
        obtain hs := Option.some.inj h; subst hs
        refine T_exit fun a w hm => then_exit (then_exit (inBlock_exit (then_norm (hm.co (cs := [.keep [8]]) (by show _ = _; kernel_rfl)))))
    · skip
      refine fun a w hm => then_norm (((?_ : T Try.prog e 55 _ _ _) a w hm))
      refine T_region [] [2, 3, 8] [] [(2, .vw (8, 1)), (3, dI (0 : Int)), (8, .box [oW4 v7])] [] 3 (by kernel_rfl) (trivial) ?_
      obtain hs := Option.some.inj h; subst hs
      refine T_ret fun a w hm => T_return (fr' := [(2, .d (.sl 4 (v7.map cS_FoldPage))), (3, dI (0 : Int))]) [2, 3] (by kernel_rfl) [.thaw 2, .keep [2, 3]] (by kernel_rfl) (by kernel_rfl) (by kernel_rfl) (by show _ = _; kernel_rfl) (by exact trivial) a w hm

theorem impose_leaf_ok {F : Nat} {a0 : S_ImposeLayout} {r : Int × Int} (h : impose_leaf F a0 = some r) : ACall Try.prog 55 [.agg (cS_ImposeLayout a0)] [] (.tup [.d (.v (.int .i64 r.1)), .d (.v (.int .i64 r.2))]) [] := by
  rw [impose_leaf] at h
  refine ACall.intro (N := 38) Try.func55 rfl rfl rfl rfl rfl fun e => ?_
  refine T_region [] [1] [] [(1, bx_ImposeLayout a0)] [] 3 (by kernel_rfl) (trivial) ?_
  refine T_draw mixed [] [1, 4, 5] [] [(1, bx_ImposeLayout a0), (4, dI (IntKind.i64.wrap ((IntKind.i64.wrap (a0.f1 + a0.f4)) + a0.f5))), (5, dI (IntKind.i64.wrap (a0.f2 + (IntKind.i64.wrap ((2 : Int) * a0.f3)))))] [] 16 (by kernel_rfl) (trivial) ?_
  refine T_seqk ?_
  obtain ⟨y1, hy1, h⟩ := call_ok h
  refine T_region [(2, { res := .tup [.d (.sl 4 (y1.1.map cS_FoldPage)), dI y1.2] })] [4, 5, 6] [] [(4, dI (IntKind.i64.wrap ((IntKind.i64.wrap (a0.f1 + a0.f4)) + a0.f5))), (5, dI (IntKind.i64.wrap (a0.f2 + (IntKind.i64.wrap ((2 : Int) * a0.f3))))), (6, .d (.sl 4 (y1.1.map cS_FoldPage)))] [(2, ACall Try.prog 24 [.agg (cS_FoldScheme a0.f0)] [] (.tup [.d (.sl 4 (y1.1.map cS_FoldPage)), dI y1.2]) [])] 5 (by kernel_rfl) (fold_Pages_ok hy1) ?_
  obtain ⟨hp1, h⟩ := chk_ok h
  refine T_region [(1, { cs := cS_FoldPage (y1.1.getD (0 : Int).toNat (S_FoldPage.mk false 0 0 0)) })] [4, 5, 33] [] [(4, dI (IntKind.i64.wrap ((IntKind.i64.wrap (a0.f1 + a0.f4)) + a0.f5))), (5, dI (IntKind.i64.wrap (a0.f2 + (IntKind.i64.wrap ((2 : Int) * a0.f3))))), (33, dB ((((y1.1.getD (0 : Int).toNat (S_FoldPage.mk false 0 0 0)).f3).tmod (2 : Int)) == (1 : Int)))] [(1, 0 ≤ (0 : Int) ∧ (y1.1.map cS_FoldPage)[(0 : Int).toNat]? = some (cS_FoldPage (y1.1.getD (0 : Int).toNat (S_FoldPage.mk false 0 0 0)))), (2, (2 : Int) ≠ 0)] 1 (by kernel_rfl) (⟨idx_ok (d := (S_FoldPage.mk false 0 0 0)) cS_FoldPage hp1, (show (2 : Int) ≠ 0 by decide)⟩) ?_
  refine T_cond ((((y1.1.getD (0 : Int).toNat (S_FoldPage.mk false 0 0 0)).f3).tmod (2 : Int)) == (1 : Int)) (by kernel_rfl) (fun hc => ?_) (fun hc => ?_)
  · have h := cond_tt hc h
    refine T_region [] [2, 3] [] [(2, dI (IntKind.i64.wrap (a0.f2 + (IntKind.i64.wrap ((2 : Int) * a0.f3))))), (3, dI (IntKind.i64.wrap ((IntKind.i64.wrap (a0.f1 + a0.f4)) + a0.f5)))] [] 4 (by kernel_rfl) (trivial) ?_
    obtain hs := Option.some.inj h; subst hs
    refine T_ret fun a w hm => then_ret (T_return (fr' := [(2, dI (IntKind.i64.wrap (a0.f2 + (IntKind.i64.wrap ((2 : Int) * a0.f3))))), (3, dI (IntKind.i64.wrap ((IntKind.i64.wrap (a0.f1 + a0.f4)) + a0.f5)))]) [2, 3] (by kernel_rfl) [.keep [2, 3]] (by kernel_rfl) (by kernel_rfl) (by kernel_rfl) (by show _ = _; kernel_rfl) (by exact trivial) a w hm)
  · have h := cond_ff hc h
    refine T_skip fun a w hm => then_norm (((?_ : T Try.prog e 38 _ _ _) a w hm))
    refine T_region [] [2, 3] [] [(2, dI (IntKind.i64.wrap ((IntKind.i64.wrap (a0.f1 + a0.f4)) + a0.f5))), (3, dI (IntKind.i64.wrap (a0.f2 + (IntKind.i64.wrap ((2 : Int) * a0.f3)))))] [] 4 (by kernel_rfl) (trivial) ?_
    obtain hs := Option.some.inj h; subst hs
    refine T_ret fun a w hm => T_return (fr' := [(2, dI (IntKind.i64.wrap ((IntKind.i64.wrap (a0.f1 + a0.f4)) + a0.f5))), (3, dI (IntKind.i64.wrap (a0.f2 + (IntKind.i64.wrap ((2 : Int) * a0.f3)))))]) [2, 3] (by kernel_rfl) [.keep [2, 3]] (by kernel_rfl) (by kernel_rfl) (by kernel_rfl) (by show _ = _; kernel_rfl) (by exact trivial) a w hm

theorem impose_single_ok {F : Nat} {a0 : S_ImposeLayout} {r : Int × Int} (h : impose_single F a0 = some r) : ACall Try.prog 56 [.agg (cS_ImposeLayout a0)] [] (.tup [.d (.v (.int .i64 r.1)), .d (.v (.int .i64 r.2))]) [] := by
  rw [impose_single] at h
  refine ACall.intro (N := 29) Try.func56 rfl rfl rfl rfl rfl fun e => ?_
  refine T_region [] [1] [] [(1, bx_ImposeLayout a0)] [] 3 (by kernel_rfl) (trivial) ?_
  obtain ⟨y1, hy1, h⟩ := call_ok h
  refine T_region [(1, { res := .tup [dI y1.1, dI y1.2] })] [1, 4, 5] [] [(1, bx_ImposeLayout a0), (4, dI y1.1), (5, dI y1.2)] [(1, ACall Try.prog 55 [.agg (cS_ImposeLayout a0)] [] (.tup [dI y1.1, dI y1.2]) [])] 5 (by kernel_rfl) (impose_leaf_ok hy1) ?_
  refine T_draw mixed [] [2, 3] [] [(2, dI (IntKind.i64.wrap ((IntKind.i64.wrap ((2 : Int) * a0.f6)) + (IntKind.i64.wrap (a0.f0.f0 * y1.1))))), (3, dI (IntKind.i64.wrap ((IntKind.i64.wrap ((2 : Int) * a0.f6)) + (IntKind.i64.wrap (a0.f0.f1 * y1.2)))))] [] 20 (by kernel_rfl) (trivial) ?_
  obtain hs := Option.some.inj h; subst hs
  refine T_ret fun a w hm => T_return (fr' := [(2, dI (IntKind.i64.wrap ((IntKind.i64.wrap ((2 : Int) * a0.f6)) + (IntKind.i64.wrap (a0.f0.f0 * y1.1))))), (3, dI (IntKind.i64.wrap ((IntKind.i64.wrap ((2 : Int) * a0.f6)) + (IntKind.i64.wrap (a0.f0.f1 * y1.2)))))]) [2, 3] (by kernel_rfl) [.keep [2, 3]] (by kernel_rfl) (by kernel_rfl) (by kernel_rfl) (by show _ = _; kernel_rfl) (by exact trivial) a w hm

theorem impose_size_ok {F : Nat} {a0 : S_ImposeLayout} {r : Int × Int} (h : impose_size F a0 = some r) : ACall Try.prog 44 [.agg (cS_ImposeLayout a0)] [] (.tup [.d (.v (.int .i64 r.1)), .d (.v (.int .i64 r.2))]) [] := by
  rw [impose_size] at h
  refine ACall.intro (N := 23) Try.func44 rfl rfl rfl rfl rfl fun e => ?_
  refine T_region [] [1] [] [(1, bx_ImposeLayout a0)] [] 3 (by kernel_rfl) (trivial) ?_
  obtain ⟨y1, hy1, h⟩ := call_ok h
  refine T_region [(1, { res := .tup [dI y1.1, dI y1.2] })] [1, 4, 5] [] [(1, bx_ImposeLayout a0), (4, dI y1.1), (5, dI y1.2)] [(1, ACall Try.prog 56 [.agg (cS_ImposeLayout a0)] [] (.tup [dI y1.1, dI y1.2]) [])] 5 (by kernel_rfl) (impose_single_ok hy1) ?_
  refine T_joinc h (fun (p : Int × Int) => [(4, dI p.1), (5, dI p.2)]) (fun s h => ?_) (fun s h => ?_)
  · refine T_region [] [4, 5, 12] [] [(4, dI y1.1), (5, dI y1.2), (12, dI a0.f8)] [] 2 (by kernel_rfl) (trivial) ?_
    refine T_block ?_
    refine T_region [] [4, 5, 12, 13] [] [(4, dI y1.1), (5, dI y1.2), (12, dI a0.f8), (13, dB (a0.f8 == (1 : Int)))] [] 2 (by kernel_rfl) (trivial) ?_
    refine T_cond (a0.f8 == (1 : Int)) (by kernel_rfl) (fun hc => ?_) (fun hc => ?_)
    · have h := cond_tt hc h
      obtain hs := Option.some.inj h; subst hs
      refine T_region_end [] [4, 5] [] [(4, dI (IntKind.i64.wrap (y1.1 * (2 : Int)))), (5, dI y1.2)] [] 3 (by kernel_rfl) (trivial) fun a w hm => inBlock_norm (then_norm (hm.co (cs := [.keep [4, 5]]) (by show _ = _; kernel_rfl)))
    · have h := cond_ff hc h
      refine T_region [] [4, 5, 17] [] [(4, dI y1.1), (5, dI y1.2), (17, dB (a0.f8 == (2 : Int)))] [] 2 (by kernel_rfl) (trivial) ?_
      refine T_cond (a0.f8 == (2 : Int)) (by kernel_rfl) (fun hc => ?_) (fun hc => ?_)
      · have h := cond_tt hc h
        obtain hs := Option.some.inj h; subst hs
        refine T_region_end [] [4, 5] [] [(4, dI y1.1), (5, dI (IntKind.i64.wrap (y1.2 * (2 : Int))))] [] 3 (by kernel_rfl) (trivial) fun a w hm => inBlock_norm (then_norm (hm.co (cs := [.keep [4, 5]]) (by show _ = _; kernel_rfl)))
      · have h := cond_ff hc h
        obtain hs := Option.some.inj h; subst hs
        refine T_skip fun a w hm => inBlock_norm (then_norm (hm.co (cs := [.keep [4, 5]]) (by show _ = _; kernel_rfl)))
  · obtain ⟨v1, v2⟩ := s
    try dsimp only at h
    refine T_region [] [2, 3] [] [(2, dI v1), (3, dI v2)] [] 4 (by kernel_rfl) (trivial) ?_
    obtain hs := Option.some.inj h; subst hs
    refine T_ret fun a w hm => T_return (fr' := [(2, dI v1), (3, dI v2)]) [2, 3] (by kernel_rfl) [.keep [2, 3]] (by kernel_rfl) (by kernel_rfl) (by kernel_rfl) (by show _ = _; kernel_rfl) (by exact trivial) a w hm

theorem impose_Check_ok {F : Nat} {a0 : S_ImposeLayout} {r : Int} (h : impose_Check F a0 = some r) : ACall Try.prog 22 [.agg (cS_ImposeLayout a0)] [] (.d (.v (.int .i64 r))) [] := by
  rw [impose_Check] at h
  refine ACall.intro (N := 104) Try.func22 rfl rfl rfl rfl rfl fun e => ?_
  refine T_region [] [1] [] [(1, bx_ImposeLayout a0)] [] 2 (by kernel_rfl) (trivial) ?_
  refine T_seqk ?_
  obtain ⟨y1, hy1, h⟩ := call_ok h
  refine T_region [(2, { res := dI y1 })] [1, 3] [] [(1, bx_ImposeLayout a0), (3, dI y1)] [(2, ACall Try.prog 43 [.agg (cS_FoldScheme a0.f0)] [] (dI y1) [])] 1 (by kernel_rfl) (fold_Check_ok hy1) ?_
  refine T_region [] [1, 3, 14] [] [(1, bx_ImposeLayout a0), (3, dI y1), (14, dB (y1 != (0 : Int)))] [] 2 (by kernel_rfl) (trivial) ?_
  refine T_cond (y1 != (0 : Int)) (by kernel_rfl) (fun hc => ?_) (fun hc => ?_)
  · have h := cond_tt hc h
    refine T_region [] [2] [] [(2, dI y1)] [] 2 (by kernel_rfl) (trivial) ?_
    obtain hs := Option.some.inj h; subst hs
    refine T_ret fun a w hm => then_ret (T_return (fr' := [(2, dI y1)]) [2] (by kernel_rfl) [.keep [2]] (by kernel_rfl) (by kernel_rfl) (by kernel_rfl) (by show _ = _; kernel_rfl) (by exact trivial) a w hm)
  · have h := cond_ff hc h
    refine T_skip fun a w hm => then_norm (((?_ : T Try.prog e 104 _ _ _) a w hm))
    refine T_seqk ?_
    obtain ⟨y2, hy2, h⟩ := call_ok h
    refine T_region [(2, { res := .tup [.d (.sl 4 (y2.1.map cS_FoldPage)), dI y2.2] })] [1, 5] [] [(1, bx_ImposeLayout a0), (5, dI y2.2)] [(2, ACall Try.prog 24 [.agg (cS_FoldScheme a0.f0)] [] (.tup [.d (.sl 4 (y2.1.map cS_FoldPage)), dI y2.2]) [])] 5 (by kernel_rfl) (fold_Pages_ok hy2) ?_
    refine T_region [] [1, 5, 23] [] [(1, bx_ImposeLayout a0), (5, dI y2.2), (23, dB (y2.2 != (0 : Int)))] [] 2 (by kernel_rfl) (trivial) ?_
    refine T_cond (y2.2 != (0 : Int)) (by kernel_rfl) (fun hc => ?_) (fun hc => ?_)
    · have h := cond_tt hc h
      refine T_region [] [2] [] [(2, dI y2.2)] [] 2 (by kernel_rfl) (trivial) ?_
      obtain hs := Option.some.inj h; subst hs
      refine T_ret fun a w hm => then_ret (T_return (fr' := [(2, dI y2.2)]) [2] (by kernel_rfl) [.keep [2]] (by kernel_rfl) (by kernel_rfl) (by kernel_rfl) (by show _ = _; kernel_rfl) (by exact trivial) a w hm)
    · have h := cond_ff hc h
      refine T_skip fun a w hm => then_norm (((?_ : T Try.prog e 104 _ _ _) a w hm))
      refine T_seqk ?_
      obtain ⟨z2, hz1, h⟩ := lett_ok h
      refine T_region [(12, { rw := some (dB z2) })] [1, 42] [] [(1, bx_ImposeLayout a0), (42, dB (bif z2 then true else (decide (a0.f2 > (256 : Int)))))] [(4, ((((decide (a0.f1 < (1 : Int))) == false) && true) = true → True)), (0, ((((decide (a0.f1 < (1 : Int))) == false) && true) = true → True)), (0, ((((decide (a0.f1 < (1 : Int))) == false) && true) = true → True)), (2, ((((bif (decide (a0.f1 < (1 : Int))) then true else (decide (a0.f1 > (256 : Int)))) == false) && true) = true → True)), (0, ((((bif (decide (a0.f1 < (1 : Int))) then true else (decide (a0.f1 > (256 : Int)))) == false) && true) = true → True)), (0, ((((bif (decide (a0.f1 < (1 : Int))) then true else (decide (a0.f1 > (256 : Int)))) == false) && true) = true → True)), (0, (True) ∧ AVdB (bif (bif (decide (a0.f1 < (1 : Int))) then true else (decide (a0.f1 > (256 : Int)))) then true else (decide (a0.f2 < (1 : Int)))) = dB z2), (1, (((z2 == false) && true) = true → True)), (0, (((z2 == false) && true) = true → True)), (0, (((z2 == false) && true) = true → True))] 1 (by kernel_rfl) (⟨(fun hg => trivial), (fun hg => trivial), (fun hg => trivial), (fun hg => trivial), (fun hg => trivial), (fun hg => trivial), ⟨trivial, (by subst hz1; rfl)⟩, (fun hg => trivial), (fun hg => trivial), (fun hg => trivial)⟩) ?_
      refine T_cond (bif z2 then true else (decide (a0.f2 > (256 : Int)))) (by kernel_rfl) (fun hc => ?_) (fun hc => ?_)
      · have h := cond_tt hc h
        refine T_region [] [2] [] [(2, dI (3 : Int))] [] 1 (by kernel_rfl) (trivial) ?_
        obtain hs := Option.some.inj h; subst hs
        refine T_ret fun a w hm => then_ret (T_return (fr' := [(2, dI (3 : Int))]) [2] (by kernel_rfl) [.keep [2]] (by kernel_rfl) (by kernel_rfl) (by kernel_rfl) (by show _ = _; kernel_rfl) (by exact trivial) a w hm)
      · have h := cond_ff hc h
        refine T_skip fun a w hm => then_norm (((?_ : T Try.prog e 104 _ _ _) a w hm))
        refine T_seqk ?_
        refine T_region [] [1, 51, 52] [] [(1, bx_ImposeLayout a0), (51, .agg (cS_arr4_Int (S_arr4_Int.mk a0.f3 a0.f4 a0.f5 a0.f6))), (52, dI (0 : Int))] [] 10 (by kernel_rfl) (trivial) ?_
        refine T_joinEt h (fun (p : Unit) => [(1, bx_ImposeLayout a0)]) (fun s h hk1 => ?_) (fun s h => ?_)
        · refine T_co [.keep [1, 51, 52]] ((fun (p : Int) => [(1, bx_ImposeLayout a0), (51, .agg (cS_arr4_Int (S_arr4_Int.mk a0.f3 a0.f4 a0.f5 a0.f6))), (52, dI p)]) (0 : Int)) (by show _ = _; kernel_rfl) ?_
          refine T_block ?_
          refine T_loopF (ι := Int) (fun (p : Int) => [(1, bx_ImposeLayout a0), (51, .agg (cS_arr4_Int (S_arr4_Int.mk a0.f3 a0.f4 a0.f5 a0.f6))), (52, dI p)]) (fun n p => impose_Check_L0 F a0 n p = some s) (fun i hh => by simp [impose_Check_L0] at hh) (fun n v1 h => ?_) F (0 : Int) h
          have h : impose_Check_L0 F a0 (n + 1) v1 = some s := h
          rw [impose_Check_L0] at h
          refine T_region [] [1, 51, 52, 53] [] [(1, bx_ImposeLayout a0), (51, .agg (cS_arr4_Int (S_arr4_Int.mk a0.f3 a0.f4 a0.f5 a0.f6))), (52, dI v1), (53, dB (decide (v1 < (4 : Int))))] [] 1 (by kernel_rfl) (trivial) ?_
          refine T_seqk ?_
          refine T_cond (decide (v1 < (4 : Int))) (by kernel_rfl) (fun hc => ?_) (fun hc => ?_)
          · have h := cond_tt hc h
            refine T_skip fun a w hm => then_norm (((?_ : T Try.prog e 104 _ _ _) a w hm))
            refine T_seqk ?_
            refine T_block ?_
            obtain ⟨hp1, h⟩ := chk_ok h
            refine T_region [(0, { cs := (cI .i64) ([a0.f3, a0.f4, a0.f5, a0.f6].getD v1.toNat 0) })] [1, 7, 51, 52] [] [(1, bx_ImposeLayout a0), (7, dI ([a0.f3, a0.f4, a0.f5, a0.f6].getD v1.toNat 0)), (51, .agg (cS_arr4_Int (S_arr4_Int.mk a0.f3 a0.f4 a0.f5 a0.f6))), (52, dI v1)] [(0, (0 ≤ v1 ∧ v1 < 4) ∧ (cI .i64) ([a0.f3, a0.f4, a0.f5, a0.f6].getD v1.toNat 0) = ((cS_arr4_Int (S_arr4_Int.mk a0.f3 a0.f4 a0.f5 a0.f6)).drop (v1.toNat * 1)).take 1)] 1 (by kernel_rfl) (⟨hp1, arr_ok (d := 0) (cI .i64) 1 4 [a0.f3, a0.f4, a0.f5, a0.f6] rfl (fun _ => rfl) hp1 rfl⟩) ?_
            obtain ⟨z1, hz2, h⟩ := lett_ok h
            refine T_region [(5, { rw := some (dB z1) })] [1, 51, 52, 60] [] [(1, bx_ImposeLayout a0), (51, .agg (cS_arr4_Int (S_arr4_Int.mk a0.f3 a0.f4 a0.f5 a0.f6))), (52, dI v1), (60, dB z1)] [(3, ((((decide (([a0.f3, a0.f4, a0.f5, a0.f6].getD v1.toNat 0) < (0 : Int))) == false) && true) = true → True)), (0, ((((decide (([a0.f3, a0.f4, a0.f5, a0.f6].getD v1.toNat 0) < (0 : Int))) == false) && true) = true → True)), (0, (True) ∧ AVdB (bif (decide (([a0.f3, a0.f4, a0.f5, a0.f6].getD v1.toNat 0) < (0 : Int))) then true else (decide (([a0.f3, a0.f4, a0.f5, a0.f6].getD v1.toNat 0) > (64 : Int)))) = dB z1)] 0 (by kernel_rfl) (⟨(fun hg => trivial), (fun hg => trivial), ⟨trivial, (by subst hz2; rfl)⟩⟩) ?_
            refine T_cond z1 (by kernel_rfl) (fun hc => ?_) (fun hc => ?_)
            · have h := cond_tt hc h
              refine T_region [] [2] [] [(2, dI (3 : Int))] [] 1 (by kernel_rfl) (trivial) ?_
              obtain hs := Option.some.inj h; subst hs
              have h := callE_esc hk1
              obtain hs := Option.some.inj h; subst hs
              refine T_ret fun a w hm => inBlock_ret (then_ret (then_ret (inBlock_ret (then_ret (then_ret (T_return (fr' := [(2, dI (3 : Int))]) [2] (by kernel_rfl) [.keep [2]] (by kernel_rfl) (by kernel_rfl) (by kernel_rfl) (by show _ = _; kernel_rfl) (by exact trivial) a w hm))))))
            · have h := cond_ff hc h
              refine T_skip fun a w hm => inBlock_norm (then_norm (((?_ : T Try.prog e 104 _ _ _) a w hm)))
              refine T_region_end [] [1, 51, 52] [] [(1, bx_ImposeLayout a0), (51, .agg (cS_arr4_Int (S_arr4_Int.mk a0.f3 a0.f4 a0.f5 a0.f6))), (52, dI (IntKind.i64.wrap (v1 + (1 : Int))))] [] 2 (by kernel_rfl) (trivial) fun a w hm => then_norm (⟨IntKind.i64.wrap (v1 + (1 : Int)), h, hm.co (cs := [.keep [1, 51, 52]]) (by show _ = _; kernel_rfl)⟩)
          · have h := cond_ff hc h
            obtain hs := Option.some.inj h; subst hs
            refine T_exit fun a w hm => then_exit (then_exit (inBlock_exit (then_norm (⟨_, rfl, hm.co (cs := [.keep [1]]) (by show _ = _; kernel_rfl)⟩))))
        · skip
          refine fun a w hm => then_norm (((?_ : T Try.prog e 104 _ _ _) a w hm))
          refine T_seqk ?_
          refine T_region [] [1, 69] [] [(1, bx_ImposeLayout a0), (69, dB (bif (decide (a0.f7 < (0 : Int))) then true else (decide (a0.f7 > (8 : Int)))))] [(4, ((((decide (a0.f7 < (0 : Int))) == false) && true) = true → True)), (0, ((((decide (a0.f7 < (0 : Int))) == false) && true) = true → True)), (0, ((((decide (a0.f7 < (0 : Int))) == false) && true) = true → True))] 1 (by kernel_rfl) (⟨(fun hg => trivial), (fun hg => trivial), (fun hg => trivial)⟩) ?_
          refine T_cond (bif (decide (a0.f7 < (0 : Int))) then true else (decide (a0.f7 > (8 : Int)))) (by kernel_rfl) (fun hc => ?_) (fun hc => ?_)
          · have h := cond_tt hc h
            refine T_region [] [2] [] [(2, dI (3 : Int))] [] 1 (by kernel_rfl) (trivial) ?_
            obtain hs := Option.some.inj h; subst hs
            refine T_ret fun a w hm => then_ret (T_return (fr' := [(2, dI (3 : Int))]) [2] (by kernel_rfl) [.keep [2]] (by kernel_rfl) (by kernel_rfl) (by kernel_rfl) (by show _ = _; kernel_rfl) (by exact trivial) a w hm)
          · have h := cond_ff hc h
            refine T_skip fun a w hm => then_norm (((?_ : T Try.prog e 104 _ _ _) a w hm))
            refine T_seqk ?_
            refine T_region [] [1, 77] [] [(1, bx_ImposeLayout a0), (77, dB (bif (decide (a0.f8 < (0 : Int))) then true else (decide (a0.f8 > (2 : Int)))))] [(4, ((((decide (a0.f8 < (0 : Int))) == false) && true) = true → True)), (0, ((((decide (a0.f8 < (0 : Int))) == false) && true) = true → True)), (0, ((((decide (a0.f8 < (0 : Int))) == false) && true) = true → True))] 1 (by kernel_rfl) (⟨(fun hg => trivial), (fun hg => trivial), (fun hg => trivial)⟩) ?_
            refine T_cond (bif (decide (a0.f8 < (0 : Int))) then true else (decide (a0.f8 > (2 : Int)))) (by kernel_rfl) (fun hc => ?_) (fun hc => ?_)
            · have h := cond_tt hc h
              refine T_region [] [2] [] [(2, dI (14 : Int))] [] 1 (by kernel_rfl) (trivial) ?_
              obtain hs := Option.some.inj h; subst hs
              refine T_ret fun a w hm => then_ret (T_return (fr' := [(2, dI (14 : Int))]) [2] (by kernel_rfl) [.keep [2]] (by kernel_rfl) (by kernel_rfl) (by kernel_rfl) (by show _ = _; kernel_rfl) (by exact trivial) a w hm)
            · have h := cond_ff hc h
              refine T_skip fun a w hm => then_norm (((?_ : T Try.prog e 104 _ _ _) a w hm))
              refine T_seqk ?_
              obtain ⟨z3, hz3, h⟩ := lett_ok h
              refine T_region [(8, { rw := some (dI z3) })] [1, 92] [] [(1, bx_ImposeLayout a0), (92, dB (decide ((IntKind.i64.wrap (z3 * a0.f7)) > a0.f5)))] [(8, ((2 : Int) ≠ 0) ∧ AVdI (IntKind.i64.wrap ((IntKind.i64.wrap ((IntKind.i64.wrap (a0.f0.f0 * a0.f0.f1)) - (1 : Int))).tdiv (2 : Int))) = dI z3)] 6 (by kernel_rfl) (⟨(show (2 : Int) ≠ 0 by decide), (by subst hz3; rfl)⟩) ?_
              refine T_cond (decide ((IntKind.i64.wrap (z3 * a0.f7)) > a0.f5)) (by kernel_rfl) (fun hc => ?_) (fun hc => ?_)
              · have h := cond_tt hc h
                refine T_region [] [2] [] [(2, dI (19 : Int))] [] 1 (by kernel_rfl) (trivial) ?_
                obtain hs := Option.some.inj h; subst hs
                refine T_ret fun a w hm => then_ret (T_return (fr' := [(2, dI (19 : Int))]) [2] (by kernel_rfl) [.keep [2]] (by kernel_rfl) (by kernel_rfl) (by kernel_rfl) (by show _ = _; kernel_rfl) (by exact trivial) a w hm)
              · have h := cond_ff hc h
                refine T_skip fun a w hm => then_norm (((?_ : T Try.prog e 104 _ _ _) a w hm))
                refine T_seqk ?_
                obtain ⟨y3, hy3, h⟩ := call_ok h
                refine T_region [(1, { res := .tup [dI y3.1, dI y3.2] })] [8, 9] [] [(8, dI y3.1), (9, dI y3.2)] [(1, ACall Try.prog 44 [.agg (cS_ImposeLayout a0)] [] (.tup [dI y3.1, dI y3.2]) [])] 5 (by kernel_rfl) (impose_size_ok hy3) ?_
                refine T_region [] [103] [] [(103, dB (bif (decide (y3.1 > (1024 : Int))) then true else (decide (y3.2 > (1024 : Int)))))] [(3, ((((decide (y3.1 > (1024 : Int))) == false) && true) = true → True)), (0, ((((decide (y3.1 > (1024 : Int))) == false) && true) = true → True))] 1 (by kernel_rfl) (⟨(fun hg => trivial), (fun hg => trivial)⟩) ?_
                refine T_cond (bif (decide (y3.1 > (1024 : Int))) then true else (decide (y3.2 > (1024 : Int)))) (by kernel_rfl) (fun hc => ?_) (fun hc => ?_)
                · have h := cond_tt hc h
                  refine T_region [] [2] [] [(2, dI (2 : Int))] [] 1 (by kernel_rfl) (trivial) ?_
                  obtain hs := Option.some.inj h; subst hs
                  refine T_ret fun a w hm => then_ret (T_return (fr' := [(2, dI (2 : Int))]) [2] (by kernel_rfl) [.keep [2]] (by kernel_rfl) (by kernel_rfl) (by kernel_rfl) (by show _ = _; kernel_rfl) (by exact trivial) a w hm)
                · have h := cond_ff hc h
                  refine T_skip fun a w hm => then_norm (((?_ : T Try.prog e 104 _ _ _) a w hm))
                  refine T_region [] [2] [] [(2, dI (0 : Int))] [] 1 (by kernel_rfl) (trivial) ?_
                  obtain hs := Option.some.inj h; subst hs
                  refine T_ret fun a w hm => T_return (fr' := [(2, dI (0 : Int))]) [2] (by kernel_rfl) [.keep [2]] (by kernel_rfl) (by kernel_rfl) (by kernel_rfl) (by show _ = _; kernel_rfl) (by exact trivial) a w hm

set_option maxHeartbeats 8000000 in
set_option maxRecDepth 100000 in
theorem bindery_frameOf_ok {F : Nat} {a0 : S_ImposeLayout} {r : S_bindery_frame} (h : bindery_frameOf F a0 = some r) : ACall Try.prog 23 [.agg (cS_ImposeLayout a0)] [] (.agg (cS_bindery_frame r)) [] := by
  rw [bindery_frameOf] at h
  refine ACall.intro (N := 62) Try.func23 rfl rfl rfl rfl rfl fun e => ?_
  refine T_region [] [1, 2] [] [(1, bx_ImposeLayout a0), (2, .box [dI 0, dI 0, dI 0, dI 0])] [] 2 (by kernel_rfl) (trivial) ?_
  refine T_region [] [1, 2, 3] [] [(1, bx_ImposeLayout a0), (2, .box [dI 0, dI 0, dI 0, dI 0]), (3, .box [dI (IntKind.i64.wrap ((IntKind.i64.wrap (a0.f1 + a0.f4)) + a0.f5)), dI (IntKind.i64.wrap (a0.f2 + (IntKind.i64.wrap ((2 : Int) * a0.f3)))), dI 0, dI 0])] [] 17 (by kernel_rfl) (trivial) ?_
  refine T_draw mixed [] [1, 2, 3, 4, 5] [] [(1, bx_ImposeLayout a0), (2, .box [dI 0, dI 0, dI 0, dI 0]), (3, .box [dI (IntKind.i64.wrap ((IntKind.i64.wrap (a0.f1 + a0.f4)) + a0.f5)), dI (IntKind.i64.wrap (a0.f2 + (IntKind.i64.wrap ((2 : Int) * a0.f3)))), dI 0, dI 0]), (4, dI (IntKind.i64.wrap ((IntKind.i64.wrap (a0.f1 + a0.f4)) + a0.f5))), (5, dI (IntKind.i64.wrap (a0.f2 + (IntKind.i64.wrap ((2 : Int) * a0.f3)))))] [] 6 (by kernel_rfl) (trivial) ?_
  refine T_joinc h (fun (p : Int × Int) => [(1, bx_ImposeLayout a0), (2, .box [dI 0, dI 0, dI 0, dI 0]), (3, .box [dI (IntKind.i64.wrap ((IntKind.i64.wrap (a0.f1 + a0.f4)) + a0.f5)), dI (IntKind.i64.wrap (a0.f2 + (IntKind.i64.wrap ((2 : Int) * a0.f3)))), dI 0, dI 0]), (4, dI p.1), (5, dI p.2)]) (fun s h => ?_) (fun s h => ?_)
  · obtain ⟨y1, hy1, h⟩ := call_ok h
    refine T_region [(2, { res := .tup [.d (.sl 4 (y1.1.map cS_FoldPage)), dI y1.2] })] [1, 2, 3, 4, 5, 6] [] [(1, bx_ImposeLayout a0), (2, .box [dI 0, dI 0, dI 0, dI 0]), (3, .box [dI (IntKind.i64.wrap ((IntKind.i64.wrap (a0.f1 + a0.f4)) + a0.f5)), dI (IntKind.i64.wrap (a0.f2 + (IntKind.i64.wrap ((2 : Int) * a0.f3)))), dI 0, dI 0]), (4, dI (IntKind.i64.wrap ((IntKind.i64.wrap (a0.f1 + a0.f4)) + a0.f5))), (5, dI (IntKind.i64.wrap (a0.f2 + (IntKind.i64.wrap ((2 : Int) * a0.f3))))), (6, .d (.sl 4 (y1.1.map cS_FoldPage)))] [(2, ACall Try.prog 24 [.agg (cS_FoldScheme a0.f0)] [] (.tup [.d (.sl 4 (y1.1.map cS_FoldPage)), dI y1.2]) [])] 5 (by kernel_rfl) (fold_Pages_ok hy1) ?_
    obtain ⟨hp1, h⟩ := chk_ok h
    refine T_region [(1, { cs := cS_FoldPage (y1.1.getD (0 : Int).toNat (S_FoldPage.mk false 0 0 0)) })] [1, 2, 3, 4, 5, 38] [] [(1, bx_ImposeLayout a0), (2, .box [dI 0, dI 0, dI 0, dI 0]), (3, .box [dI (IntKind.i64.wrap ((IntKind.i64.wrap (a0.f1 + a0.f4)) + a0.f5)), dI (IntKind.i64.wrap (a0.f2 + (IntKind.i64.wrap ((2 : Int) * a0.f3)))), dI 0, dI 0]), (4, dI (IntKind.i64.wrap ((IntKind.i64.wrap (a0.f1 + a0.f4)) + a0.f5))), (5, dI (IntKind.i64.wrap (a0.f2 + (IntKind.i64.wrap ((2 : Int) * a0.f3))))), (38, dB ((((y1.1.getD (0 : Int).toNat (S_FoldPage.mk false 0 0 0)).f3).tmod (2 : Int)) == (1 : Int)))] [(1, 0 ≤ (0 : Int) ∧ (y1.1.map cS_FoldPage)[(0 : Int).toNat]? = some (cS_FoldPage (y1.1.getD (0 : Int).toNat (S_FoldPage.mk false 0 0 0)))), (2, (2 : Int) ≠ 0)] 1 (by kernel_rfl) (⟨idx_ok (d := (S_FoldPage.mk false 0 0 0)) cS_FoldPage hp1, (show (2 : Int) ≠ 0 by decide)⟩) ?_
    refine T_cond ((((y1.1.getD (0 : Int).toNat (S_FoldPage.mk false 0 0 0)).f3).tmod (2 : Int)) == (1 : Int)) (by kernel_rfl) (fun hc => ?_) (fun hc => ?_)
    · have h := cond_tt hc h
      obtain hs := Option.some.inj h; subst hs
      refine T_region_end [] [1, 2, 3, 4, 5] [] [(1, bx_ImposeLayout a0), (2, .box [dI 0, dI 0, dI 0, dI 0]), (3, .box [dI (IntKind.i64.wrap ((IntKind.i64.wrap (a0.f1 + a0.f4)) + a0.f5)), dI (IntKind.i64.wrap (a0.f2 + (IntKind.i64.wrap ((2 : Int) * a0.f3)))), dI 0, dI 0]), (4, dI (IntKind.i64.wrap (a0.f2 + (IntKind.i64.wrap ((2 : Int) * a0.f3))))), (5, dI (IntKind.i64.wrap ((IntKind.i64.wrap (a0.f1 + a0.f4)) + a0.f5)))] [] 4 (by kernel_rfl) (trivial) fun a w hm => then_norm (hm.co (cs := [.keep [1, 2, 3, 4, 5]]) (by show _ = _; kernel_rfl))
    · have h := cond_ff hc h
      obtain hs := Option.some.inj h; subst hs
      refine T_skip fun a w hm => then_norm (hm.co (cs := [.keep [1, 2, 3, 4, 5]]) (by show _ = _; kernel_rfl))
  · obtain ⟨v1, v2⟩ := s
    try dsimp only at h
    refine T_drawG mixed [(22, 0, some 0), (21, 1, some 3), (20, 9, some 4), (19, 25, some 6), (18, 89, some 9), (17, 601, some 12), (16, 4697, some 13), (15, 12889, some 15), (14, 45657, none), (13, 45659, some 2), (13, 45689, some 7), (13, 46681, some 11), (13, 62041, some 16), (12, 45663, none), (12, 45817, none), (12, 48729, none), (12, 127577, none), (11, 45695, some 7), (11, 45819, some 2), (11, 46687, some 11), (11, 46841, some 11), (11, 48731, some 2), (11, 48761, some 7), (11, 62047, some 16), (11, 62201, some 16), (11, 65113, some 16), (11, 127579, some 2), (11, 127609, some 7), (11, 128601, some 11), (10, 45823, some 8), (10, 48735, none), (10, 48889, none), (10, 127583, none), (10, 127737, none), (10, 130649, some 17), (9, 46079, some 18), (9, 48767, some 7), (9, 48891, some 2), (9, 65119, some 16), (9, 65273, some 16), (9, 127615, some 7), (9, 127739, some 2), (9, 128607, some 11), (9, 128761, some 11), (9, 261721, none), (8, 48895, some 8), (8, 127743, some 8), (8, 130655, some 17), (8, 130809, some 17), (8, 261723, some 2), (8, 261753, some 7), (8, 308223, none), (7, 49151, some 18), (7, 127999, some 18), (7, 261727, none), (7, 261881, none), (7, 309247, some 11), (7, 324607, some 16), (7, 832511, none), (6, 261759, some 7), (6, 261883, some 2), (6, 311295, none), (6, 390143, none), (6, 833535, some 11), (6, 848895, some 16), (5, 261887, some 8), (5, 327679, some 16), (5, 391167, some 11), (5, 835583, none), (5, 914431, none), (4, 262143, some 18), (4, 393215, some 17), (4, 851967, some 16), (4, 915455, some 11), (3, 524287, none), (3, 917503, some 17), (2, 1048575, some 20), (1, 2097151, none), (0, 4194303, none)] [(22, 3, .box [dI (IntKind.i64.wrap ((IntKind.i64.wrap (a0.f1 + a0.f4)) + a0.f5)), dI (IntKind.i64.wrap (a0.f2 + (IntKind.i64.wrap ((2 : Int) * a0.f3)))), dI (IntKind.i64.wrap ((IntKind.i64.wrap ((2 : Int) * a0.f6)) + (IntKind.i64.wrap (a0.f0.f0 * v1)))), dI (IntKind.i64.wrap ((IntKind.i64.wrap ((2 : Int) * a0.f6)) + (IntKind.i64.wrap (a0.f0.f1 * v2))))]), (21, 60, .bp 3 3), (20, 3, .box [dI (IntKind.i64.wrap ((IntKind.i64.wrap (a0.f1 + a0.f4)) + a0.f5)), dI (IntKind.i64.wrap (a0.f2 + (IntKind.i64.wrap ((2 : Int) * a0.f3)))), dI (IntKind.i64.wrap ((IntKind.i64.wrap ((2 : Int) * a0.f6)) + (IntKind.i64.wrap (a0.f0.f0 * v1)))), dI 0]), (19, 59, .bp 3 2), (18, 58, dI (IntKind.i64.wrap ((IntKind.i64.wrap ((2 : Int) * a0.f6)) + (IntKind.i64.wrap (a0.f0.f1 * v2))))), (17, 57, dI (IntKind.i64.wrap (a0.f0.f1 * v2))), (16, 56, dI v2), (15, 55, dI a0.f0.f1), (14, 54, .bp 1 1), (13, 53, .bp 1 0), (12, 52, dI (IntKind.i64.wrap ((2 : Int) * a0.f6))), (11, 51, dI a0.f6), (10, 50, .bp 1 8), (9, 49, dI (IntKind.i64.wrap ((IntKind.i64.wrap ((2 : Int) * a0.f6)) + (IntKind.i64.wrap (a0.f0.f0 * v1))))), (8, 48, dI (IntKind.i64.wrap (a0.f0.f0 * v1))), (7, 47, dI v1), (6, 46, dI a0.f0.f0), (5, 45, .bp 1 0), (4, 44, .bp 1 0), (3, 43, dI (IntKind.i64.wrap ((2 : Int) * a0.f6))), (2, 42, dI a0.f6), (1, 41, .bp 1 8), (0, 1, bx_ImposeLayout a0), (0, 2, .box [dI 0, dI 0, dI 0, dI 0]), (0, 3, .box [dI (IntKind.i64.wrap ((IntKind.i64.wrap (a0.f1 + a0.f4)) + a0.f5)), dI (IntKind.i64.wrap (a0.f2 + (IntKind.i64.wrap ((2 : Int) * a0.f3)))), dI 0, dI 0]), (0, 4, dI v1), (0, 5, dI v2)] [1, 2, 3, 4, 5, 41, 42, 43, 44, 45, 46, 47, 48, 49, 50, 51, 52, 53, 54, 55, 56, 57, 58, 59, 60] ([0, 1, 2, 0, 8, 16, 0, 96, 132, 0, 512, 1024, 0, 4096, 8192, 0, 49152, 67584, 511, 262655, 1048575, 2097151], [0, 1, 2, 0, 8, 16, 0, 96, 132, 0, 512, 1024, 0, 4096, 8192, 0, 49152, 67584, 0, 262400, 0, 1179648]) 1555421 [] [2, 3] [] [(2, .box [dI 0, dI 0, dI 0, dI 0]), (3, .box [dI (IntKind.i64.wrap ((IntKind.i64.wrap (a0.f1 + a0.f4)) + a0.f5)), dI (IntKind.i64.wrap (a0.f2 + (IntKind.i64.wrap ((2 : Int) * a0.f3)))), dI (IntKind.i64.wrap ((IntKind.i64.wrap ((2 : Int) * a0.f6)) + (IntKind.i64.wrap (a0.f0.f0 * v1)))), dI (IntKind.i64.wrap ((IntKind.i64.wrap ((2 : Int) * a0.f6)) + (IntKind.i64.wrap (a0.f0.f1 * v2))))])] [] 99 (by kernel_rfl) (by kernel_rfl) (by kernel_rfl) (by kernel_rfl) (by kernel_rfl) (by kernel_rfl) (trivial) ?_
    refine T_region [] [2] [] [(2, .box [dI (IntKind.i64.wrap ((IntKind.i64.wrap (a0.f1 + a0.f4)) + a0.f5)), dI (IntKind.i64.wrap (a0.f2 + (IntKind.i64.wrap ((2 : Int) * a0.f3)))), dI (IntKind.i64.wrap ((IntKind.i64.wrap ((2 : Int) * a0.f6)) + (IntKind.i64.wrap (a0.f0.f0 * v1)))), dI (IntKind.i64.wrap ((IntKind.i64.wrap ((2 : Int) * a0.f6)) + (IntKind.i64.wrap (a0.f0.f1 * v2))))])] [] 2 (by kernel_rfl) (trivial) ?_
    obtain hs := Option.some.inj h; subst hs
    refine T_ret fun a w hm => T_returnC (fr' := [(2, .box [dI (IntKind.i64.wrap ((IntKind.i64.wrap (a0.f1 + a0.f4)) + a0.f5)), dI (IntKind.i64.wrap (a0.f2 + (IntKind.i64.wrap ((2 : Int) * a0.f3)))), dI (IntKind.i64.wrap ((IntKind.i64.wrap ((2 : Int) * a0.f6)) + (IntKind.i64.wrap (a0.f0.f0 * v1)))), dI (IntKind.i64.wrap ((IntKind.i64.wrap ((2 : Int) * a0.f6)) + (IntKind.i64.wrap (a0.f0.f1 * v2))))])]) (ts := [62]) (N' := 63) (fr2 := [(62, .agg (cS_bindery_frame (S_bindery_frame.mk (IntKind.i64.wrap ((IntKind.i64.wrap (a0.f1 + a0.f4)) + a0.f5)) (IntKind.i64.wrap (a0.f2 + (IntKind.i64.wrap ((2 : Int) * a0.f3)))) (IntKind.i64.wrap ((IntKind.i64.wrap ((2 : Int) * a0.f6)) + (IntKind.i64.wrap (a0.f0.f0 * v1)))) (IntKind.i64.wrap ((IntKind.i64.wrap ((2 : Int) * a0.f6)) + (IntKind.i64.wrap (a0.f0.f1 * v2)))))))] ++ [(2, .box [dI (IntKind.i64.wrap ((IntKind.i64.wrap (a0.f1 + a0.f4)) + a0.f5)), dI (IntKind.i64.wrap (a0.f2 + (IntKind.i64.wrap ((2 : Int) * a0.f3)))), dI (IntKind.i64.wrap ((IntKind.i64.wrap ((2 : Int) * a0.f6)) + (IntKind.i64.wrap (a0.f0.f0 * v1)))), dI (IntKind.i64.wrap ((IntKind.i64.wrap ((2 : Int) * a0.f6)) + (IntKind.i64.wrap (a0.f0.f1 * v2))))])]) [.keep [2]] (by kernel_rfl) (by kernel_rfl) (by kernel_rfl) (by kernel_rfl) (by show _ = _; kernel_rfl) (by exact trivial) a w hm

theorem bindery_Fold_ok {F : Nat} {a0 : S_BinderySheet} {a1 : S_ImposeLayout} {r : (List S_BinderyLeaf) × Int} (h : bindery_Fold F a0 a1 = some r) : ACall Try.prog 9 [.agg (cS_BinderySheet a0), .agg (cS_ImposeLayout a1)] [] (.tup [.own 51 6 (r.1.map cS_BinderyLeaf), .d (.v (.int .i64 r.2))]) [] := by
  rw [bindery_Fold] at h
  refine ACall.intro (N := 120) Try.func9 rfl rfl rfl rfl rfl fun e => ?_
  refine T_region [] [2, 3] [] [(2, bx_BinderySheet a0), (3, bx_ImposeLayout a1)] [] 4 (by kernel_rfl) (trivial) ?_
  refine T_seqk ?_
  obtain ⟨y4, hy1, h⟩ := call_ok h
  refine T_region [(1, { res := dI y4 })] [2, 3, 6] [] [(2, bx_BinderySheet a0), (3, bx_ImposeLayout a1), (6, dI y4)] [(1, ACall Try.prog 22 [.agg (cS_ImposeLayout a1)] [] (dI y4) [])] 1 (by kernel_rfl) (impose_Check_ok hy1) ?_
  refine T_region [] [2, 3, 6, 22] [] [(2, bx_BinderySheet a0), (3, bx_ImposeLayout a1), (6, dI y4), (22, dB (y4 != (0 : Int)))] [] 2 (by kernel_rfl) (trivial) ?_
  refine T_cond (y4 != (0 : Int)) (by kernel_rfl) (fun hc => ?_) (fun hc => ?_)
  · have h := cond_tt hc h
    refine T_region [] [4, 5] [] [(4, oW5 []), (5, dI y4)] [] 3 (by kernel_rfl) (trivial) ?_
    obtain hs := Option.some.inj h; subst hs
    refine T_ret fun a w hm => then_ret (T_return (fr' := [(4, oW5 []), (5, dI y4)]) [4, 5] (by kernel_rfl) [.keep [4, 5]] (by kernel_rfl) (by kernel_rfl) (by kernel_rfl) (by show _ = _; kernel_rfl) (by exact trivial) a w hm)
  · have h := cond_ff hc h
    refine T_skip fun a w hm => then_norm (((?_ : T Try.prog e 120 _ _ _) a w hm))
    refine T_seqk ?_
    obtain ⟨y5, hy2, h⟩ := call_ok h
    refine T_region [(4, { res := dI y5 })] [2, 3, 7] [] [(2, bx_BinderySheet a0), (3, bx_ImposeLayout a1), (7, dI y5)] [(4, ACall Try.prog 20 [.agg (cS_Plate a0.f0), .agg (cS_Plate a0.f1)] [] (dI y5) [])] 1 (by kernel_rfl) (bindery_sides_ok hy2) ?_
    refine T_region [] [2, 3, 7, 30] [] [(2, bx_BinderySheet a0), (3, bx_ImposeLayout a1), (7, dI y5), (30, dB (y5 != (0 : Int)))] [] 2 (by kernel_rfl) (trivial) ?_
    refine T_cond (y5 != (0 : Int)) (by kernel_rfl) (fun hc => ?_) (fun hc => ?_)
    · have h := cond_tt hc h
      refine T_region [] [4, 5] [] [(4, oW5 []), (5, dI y5)] [] 3 (by kernel_rfl) (trivial) ?_
      obtain hs := Option.some.inj h; subst hs
      refine T_ret fun a w hm => then_ret (T_return (fr' := [(4, oW5 []), (5, dI y5)]) [4, 5] (by kernel_rfl) [.keep [4, 5]] (by kernel_rfl) (by kernel_rfl) (by kernel_rfl) (by show _ = _; kernel_rfl) (by exact trivial) a w hm)
    · have h := cond_ff hc h
      refine T_skip fun a w hm => then_norm (((?_ : T Try.prog e 120 _ _ _) a w hm))
      obtain ⟨y1, hy3, h⟩ := call_ok h
      refine T_region [(1, { res := .agg (cS_bindery_frame y1) })] [2, 3, 8] [] [(2, bx_BinderySheet a0), (3, bx_ImposeLayout a1), (8, bx_bindery_frame y1)] [(1, ACall Try.prog 23 [.agg (cS_ImposeLayout a1)] [] (.agg (cS_bindery_frame y1)) [])] 2 (by kernel_rfl) (bindery_frameOf_ok hy3) ?_
      refine T_seqk ?_
      refine T_region [] [2, 3, 8, 47] [] [(2, bx_BinderySheet a0), (3, bx_ImposeLayout a1), (8, bx_bindery_frame y1), (47, dB (bif (a0.f0.f0 != y1.f2) then true else (a0.f0.f1 != y1.f3)))] [(7, ((((a0.f0.f0 != y1.f2) == false) && true) = true → True)), (0, ((((a0.f0.f0 != y1.f2) == false) && true) = true → True)), (0, ((((a0.f0.f0 != y1.f2) == false) && true) = true → True)), (0, ((((a0.f0.f0 != y1.f2) == false) && true) = true → True)), (0, ((((a0.f0.f0 != y1.f2) == false) && true) = true → True)), (0, ((((a0.f0.f0 != y1.f2) == false) && true) = true → True))] 1 (by kernel_rfl) (⟨(fun hg => trivial), (fun hg => trivial), (fun hg => trivial), (fun hg => trivial), (fun hg => trivial), (fun hg => trivial)⟩) ?_
      refine T_cond (bif (a0.f0.f0 != y1.f2) then true else (a0.f0.f1 != y1.f3)) (by kernel_rfl) (fun hc => ?_) (fun hc => ?_)
      · have h := cond_tt hc h
        refine T_region [] [4, 5] [] [(4, oW5 []), (5, dI (19 : Int))] [] 2 (by kernel_rfl) (trivial) ?_
        obtain hs := Option.some.inj h; subst hs
        refine T_ret fun a w hm => then_ret (T_return (fr' := [(4, oW5 []), (5, dI (19 : Int))]) [4, 5] (by kernel_rfl) [.keep [4, 5]] (by kernel_rfl) (by kernel_rfl) (by kernel_rfl) (by show _ = _; kernel_rfl) (by exact trivial) a w hm)
      · have h := cond_ff hc h
        refine T_skip fun a w hm => then_norm (((?_ : T Try.prog e 120 _ _ _) a w hm))
        obtain ⟨y2, hy4, h⟩ := call_ok h
        refine T_region [(2, { res := .tup [.d (.sl 4 (y2.1.map cS_FoldPage)), dI y2.2] })] [2, 3, 8, 9] [] [(2, bx_BinderySheet a0), (3, bx_ImposeLayout a1), (8, bx_bindery_frame y1), (9, .d (.sl 4 (y2.1.map cS_FoldPage)))] [(2, ACall Try.prog 24 [.agg (cS_FoldScheme a1.f0)] [] (.tup [.d (.sl 4 (y2.1.map cS_FoldPage)), dI y2.2]) [])] 5 (by kernel_rfl) (fold_Pages_ok hy4) ?_
        refine T_region [] [2, 3, 8, 9, 11] [] [(2, bx_BinderySheet a0), (3, bx_ImposeLayout a1), (8, bx_bindery_frame y1), (9, .d (.sl 4 (y2.1.map cS_FoldPage))), (11, oW5 [])] [] 1 (by kernel_rfl) (trivial) ?_
        refine T_seqk ?_
        refine T_region [] [2, 3, 8, 9, 11, 12] [] [(2, bx_BinderySheet a0), (3, bx_ImposeLayout a1), (8, bx_bindery_frame y1), (9, .d (.sl 4 (y2.1.map cS_FoldPage))), (11, oW5 []), (12, dI (0 : Int))] [] 1 (by kernel_rfl) (trivial) ?_
        refine T_joinct h (fun (p : (List S_BinderyLeaf)) => [(11, oW5 p)]) (fun s h => ?_) (fun v11 h => ?_)
        · refine T_co [.keep [2, 3, 8, 9, 11, 12]] ((fun (p : (List S_BinderyLeaf) × Int) => [(2, bx_BinderySheet a0), (3, bx_ImposeLayout a1), (8, bx_bindery_frame y1), (9, .d (.sl 4 (y2.1.map cS_FoldPage))), (11, oW5 p.1), (12, dI p.2)]) ([], (0 : Int))) (by show _ = _; kernel_rfl) ?_
          refine T_block ?_
          refine T_loopF (ι := (List S_BinderyLeaf) × Int) (fun (p : (List S_BinderyLeaf) × Int) => [(2, bx_BinderySheet a0), (3, bx_ImposeLayout a1), (8, bx_bindery_frame y1), (9, .d (.sl 4 (y2.1.map cS_FoldPage))), (11, oW5 p.1), (12, dI p.2)]) (fun n p => bindery_Fold_L0 F a0 a1 y1 y2 n p.1 p.2 = some s) (fun i hh => by simp [bindery_Fold_L0] at hh) (fun n p h => ?_) F ([], (0 : Int)) h
          obtain ⟨v9, v1⟩ := p
          have h : bindery_Fold_L0 F a0 a1 y1 y2 (n + 1) v9 v1 = some s := h
          rw [bindery_Fold_L0] at h
          refine T_seqk ?_
          refine T_region [(2, { rw := some (dI (y2.1.length : Int)) })] [2, 3, 8, 9, 11, 12, 57] [] [(2, bx_BinderySheet a0), (3, bx_ImposeLayout a1), (8, bx_bindery_frame y1), (9, .d (.sl 4 (y2.1.map cS_FoldPage))), (11, oW5 v9), (12, dI v1), (57, dB (decide (v1 < (y2.1.length : Int))))] [(2, True ∧ AVdI ((y2.1.map cS_FoldPage).length : Int) = dI (y2.1.length : Int))] 1 (by kernel_rfl) (len_ok cS_FoldPage) ?_
          refine T_cond (decide (v1 < (y2.1.length : Int))) (by kernel_rfl) (fun hc => ?_) (fun hc => ?_)
          · have h := cond_tt hc h
            refine T_skip fun a w hm => then_norm (((?_ : T Try.prog e 120 _ _ _) a w hm))
            refine T_seqk ?_
            refine T_block ?_
            refine T_region [(0, { es := some ((List.replicate 2 (S_Plate.mk 0 0 [])).map cS_Plate) })] [2, 3, 8, 9, 11, 12, 13] [] [(2, bx_BinderySheet a0), (3, bx_ImposeLayout a1), (8, bx_bindery_frame y1), (9, .d (.sl 4 (y2.1.map cS_FoldPage))), (11, oW5 v9), (12, dI v1), (13, .arr 68 3 ((List.replicate 2 (S_Plate.mk 0 0 [])).map cS_Plate))] [(0, ArrZero Try.prog 68 2 24 ∧ List.replicate 2 (cS_Plate (S_Plate.mk 0 0 [])) = ((List.replicate 2 (S_Plate.mk 0 0 [])).map cS_Plate))] 0 (by kernel_rfl) (⟨(by show _ = _; kernel_rfl), repl_ok cS_Plate rfl⟩) ?_
            refine T_seqk ?_
            obtain ⟨hp1, h⟩ := chk_ok h
            obtain ⟨z1, hz1, h⟩ := lett_ok h
            refine T_region [(4, { rw := some (.d (.sl 4 (((y2.1.drop v1.toNat).take ((IntKind.i64.wrap (v1 + (2 : Int))).toNat - v1.toNat)).map cS_FoldPage))) }), (5, { rw := some (dI z1) })] [2, 3, 8, 9, 11, 12, 13, 64, 65, 66] [] [(2, bx_BinderySheet a0), (3, bx_ImposeLayout a1), (8, bx_bindery_frame y1), (9, .d (.sl 4 (y2.1.map cS_FoldPage))), (11, oW5 v9), (12, dI v1), (13, .arr 68 3 ((List.replicate 2 (S_Plate.mk 0 0 [])).map cS_Plate)), (64, .d (.sl 4 (((y2.1.drop v1.toNat).take ((IntKind.i64.wrap (v1 + (2 : Int))).toNat - v1.toNat)).map cS_FoldPage))), (65, dI z1), (66, dI (0 : Int))] [(4, (0 ≤ v1 ∧ v1 ≤ (IntKind.i64.wrap (v1 + (2 : Int))) ∧ (IntKind.i64.wrap (v1 + (2 : Int))) ≤ ((y2.1.map cS_FoldPage).length : Int)) ∧ AV.d (.sl 4 (((y2.1.map cS_FoldPage).drop v1.toNat).take ((IntKind.i64.wrap (v1 + (2 : Int))).toNat - v1.toNat))) = .d (.sl 4 (((y2.1.drop v1.toNat).take ((IntKind.i64.wrap (v1 + (2 : Int))).toNat - v1.toNat)).map cS_FoldPage))), (0, True ∧ AVdI ((((y2.1.drop v1.toNat).take ((IntKind.i64.wrap (v1 + (2 : Int))).toNat - v1.toNat)).map cS_FoldPage).length : Int) = dI z1)] 1 (by kernel_rfl) (⟨cutH cS_FoldPage hp1, and_trans (len_ok cS_FoldPage) (by subst hz1; rfl)⟩) ?_
            refine T_joinct h (fun (p : (List S_Plate)) => [(2, bx_BinderySheet a0), (3, bx_ImposeLayout a1), (8, bx_bindery_frame y1), (9, .d (.sl 4 (y2.1.map cS_FoldPage))), (11, oW5 v9), (12, dI v1), (13, .arr 68 3 (p.map cS_Plate))]) (fun s h => ?_) (fun v10 h => ?_)
            · refine T_co [.keep [2, 3, 8, 9, 11, 12, 13, 64, 65, 66]] ((fun (p : (List S_Plate) × Int) => [(2, bx_BinderySheet a0), (3, bx_ImposeLayout a1), (8, bx_bindery_frame y1), (9, .d (.sl 4 (y2.1.map cS_FoldPage))), (11, oW5 v9), (12, dI v1), (13, .arr 68 3 (p.1.map cS_Plate)), (64, .d (.sl 4 (((y2.1.drop v1.toNat).take ((IntKind.i64.wrap (v1 + (2 : Int))).toNat - v1.toNat)).map cS_FoldPage))), (65, dI z1), (66, dI p.2)]) ((List.replicate 2 (S_Plate.mk 0 0 [])), (0 : Int))) (by show _ = _; kernel_rfl) ?_
              refine T_block ?_
              refine T_loopF (ι := (List S_Plate) × Int) (fun (p : (List S_Plate) × Int) => [(2, bx_BinderySheet a0), (3, bx_ImposeLayout a1), (8, bx_bindery_frame y1), (9, .d (.sl 4 (y2.1.map cS_FoldPage))), (11, oW5 v9), (12, dI v1), (13, .arr 68 3 (p.1.map cS_Plate)), (64, .d (.sl 4 (((y2.1.drop v1.toNat).take ((IntKind.i64.wrap (v1 + (2 : Int))).toNat - v1.toNat)).map cS_FoldPage))), (65, dI z1), (66, dI p.2)]) (fun n p => bindery_Fold_L2 F a0 a1 y1 y2 v1 z1 n p.1 p.2 = some s) (fun i hh => by simp [bindery_Fold_L2] at hh) (fun n p h => ?_) F ((List.replicate 2 (S_Plate.mk 0 0 [])), (0 : Int)) h
              obtain ⟨v2, v3⟩ := p
              have h : bindery_Fold_L2 F a0 a1 y1 y2 v1 z1 (n + 1) v2 v3 = some s := h
              rw [bindery_Fold_L2] at h
              refine T_region [] [2, 3, 8, 9, 11, 12, 13, 64, 65, 66, 67] [] [(2, bx_BinderySheet a0), (3, bx_ImposeLayout a1), (8, bx_bindery_frame y1), (9, .d (.sl 4 (y2.1.map cS_FoldPage))), (11, oW5 v9), (12, dI v1), (13, .arr 68 3 (v2.map cS_Plate)), (64, .d (.sl 4 (((y2.1.drop v1.toNat).take ((IntKind.i64.wrap (v1 + (2 : Int))).toNat - v1.toNat)).map cS_FoldPage))), (65, dI z1), (66, dI v3), (67, dB (decide (v3 < z1)))] [] 1 (by kernel_rfl) (trivial) ?_
              refine T_seqk ?_
              refine T_cond (decide (v3 < z1)) (by kernel_rfl) (fun hc => ?_) (fun hc => ?_)
              · have h := cond_tt hc h
                refine T_skip fun a w hm => then_norm (((?_ : T Try.prog e 120 _ _ _) a w hm))
                refine T_seqk ?_
                refine T_block ?_
                obtain ⟨hp2, h⟩ := chk_ok h
                refine T_region [(1, { cs := cS_FoldPage (((y2.1.drop v1.toNat).take ((IntKind.i64.wrap (v1 + (2 : Int))).toNat - v1.toNat)).getD v3.toNat (S_FoldPage.mk false 0 0 0)) })] [2, 3, 8, 9, 11, 12, 13, 14, 15, 64, 65, 66] [] [(2, bx_BinderySheet a0), (3, bx_ImposeLayout a1), (8, bx_bindery_frame y1), (9, .d (.sl 4 (y2.1.map cS_FoldPage))), (11, oW5 v9), (12, dI v1), (13, .arr 68 3 (v2.map cS_Plate)), (14, dI v3), (15, .box [dB ((((y2.1.drop v1.toNat).take ((IntKind.i64.wrap (v1 + (2 : Int))).toNat - v1.toNat)).getD v3.toNat (S_FoldPage.mk false 0 0 0)).f0), dI ((((y2.1.drop v1.toNat).take ((IntKind.i64.wrap (v1 + (2 : Int))).toNat - v1.toNat)).getD v3.toNat (S_FoldPage.mk false 0 0 0)).f1), dI ((((y2.1.drop v1.toNat).take ((IntKind.i64.wrap (v1 + (2 : Int))).toNat - v1.toNat)).getD v3.toNat (S_FoldPage.mk false 0 0 0)).f2), dI ((((y2.1.drop v1.toNat).take ((IntKind.i64.wrap (v1 + (2 : Int))).toNat - v1.toNat)).getD v3.toNat (S_FoldPage.mk false 0 0 0)).f3)]), (64, .d (.sl 4 (((y2.1.drop v1.toNat).take ((IntKind.i64.wrap (v1 + (2 : Int))).toNat - v1.toNat)).map cS_FoldPage))), (65, dI z1), (66, dI v3)] [(1, 0 ≤ v3 ∧ (((y2.1.drop v1.toNat).take ((IntKind.i64.wrap (v1 + (2 : Int))).toNat - v1.toNat)).map cS_FoldPage)[v3.toNat]? = some (cS_FoldPage (((y2.1.drop v1.toNat).take ((IntKind.i64.wrap (v1 + (2 : Int))).toNat - v1.toNat)).getD v3.toNat (S_FoldPage.mk false 0 0 0))))] 4 (by kernel_rfl) (idx_ok (d := (S_FoldPage.mk false 0 0 0)) cS_FoldPage hp2) ?_
                refine T_region [] [2, 3, 8, 9, 11, 12, 13, 14, 15, 16, 64, 65, 66] [] [(2, bx_BinderySheet a0), (3, bx_ImposeLayout a1), (8, bx_bindery_frame y1), (9, .d (.sl 4 (y2.1.map cS_FoldPage))), (11, oW5 v9), (12, dI v1), (13, .arr 68 3 (v2.map cS_Plate)), (14, dI v3), (15, .box [dB ((((y2.1.drop v1.toNat).take ((IntKind.i64.wrap (v1 + (2 : Int))).toNat - v1.toNat)).getD v3.toNat (S_FoldPage.mk false 0 0 0)).f0), dI ((((y2.1.drop v1.toNat).take ((IntKind.i64.wrap (v1 + (2 : Int))).toNat - v1.toNat)).getD v3.toNat (S_FoldPage.mk false 0 0 0)).f1), dI ((((y2.1.drop v1.toNat).take ((IntKind.i64.wrap (v1 + (2 : Int))).toNat - v1.toNat)).getD v3.toNat (S_FoldPage.mk false 0 0 0)).f2), dI ((((y2.1.drop v1.toNat).take ((IntKind.i64.wrap (v1 + (2 : Int))).toNat - v1.toNat)).getD v3.toNat (S_FoldPage.mk false 0 0 0)).f3)]), (16, bx_Plate a0.f0), (64, .d (.sl 4 (((y2.1.drop v1.toNat).take ((IntKind.i64.wrap (v1 + (2 : Int))).toNat - v1.toNat)).map cS_FoldPage))), (65, dI z1), (66, dI v3)] [] 4 (by kernel_rfl) (trivial) ?_
                refine T_joinc h (fun (p : Int × Int × (List UInt8)) => [(2, bx_BinderySheet a0), (3, bx_ImposeLayout a1), (8, bx_bindery_frame y1), (9, .d (.sl 4 (y2.1.map cS_FoldPage))), (11, oW5 v9), (12, dI v1), (13, .arr 68 3 (v2.map cS_Plate)), (14, dI v3), (15, .box [dB ((((y2.1.drop v1.toNat).take ((IntKind.i64.wrap (v1 + (2 : Int))).toNat - v1.toNat)).getD v3.toNat (S_FoldPage.mk false 0 0 0)).f0), dI ((((y2.1.drop v1.toNat).take ((IntKind.i64.wrap (v1 + (2 : Int))).toNat - v1.toNat)).getD v3.toNat (S_FoldPage.mk false 0 0 0)).f1), dI ((((y2.1.drop v1.toNat).take ((IntKind.i64.wrap (v1 + (2 : Int))).toNat - v1.toNat)).getD v3.toNat (S_FoldPage.mk false 0 0 0)).f2), dI ((((y2.1.drop v1.toNat).take ((IntKind.i64.wrap (v1 + (2 : Int))).toNat - v1.toNat)).getD v3.toNat (S_FoldPage.mk false 0 0 0)).f3)]), (16, .box [dI p.1, dI p.2.1, .d (.sl 1 (p.2.2.map cU))]), (64, .d (.sl 4 (((y2.1.drop v1.toNat).take ((IntKind.i64.wrap (v1 + (2 : Int))).toNat - v1.toNat)).map cS_FoldPage))), (65, dI z1), (66, dI v3)]) (fun s h => ?_) (fun s h => ?_)
                · obtain ⟨z2, hz2, h⟩ := lett_ok h
                  refine T_region [(1, { rw := some (dB z2) })] [2, 3, 8, 9, 11, 12, 13, 14, 15, 16, 64, 65, 66, 74] [] [(2, bx_BinderySheet a0), (3, bx_ImposeLayout a1), (8, bx_bindery_frame y1), (9, .d (.sl 4 (y2.1.map cS_FoldPage))), (11, oW5 v9), (12, dI v1), (13, .arr 68 3 (v2.map cS_Plate)), (14, dI v3), (15, .box [dB ((((y2.1.drop v1.toNat).take ((IntKind.i64.wrap (v1 + (2 : Int))).toNat - v1.toNat)).getD v3.toNat (S_FoldPage.mk false 0 0 0)).f0), dI ((((y2.1.drop v1.toNat).take ((IntKind.i64.wrap (v1 + (2 : Int))).toNat - v1.toNat)).getD v3.toNat (S_FoldPage.mk false 0 0 0)).f1), dI ((((y2.1.drop v1.toNat).take ((IntKind.i64.wrap (v1 + (2 : Int))).toNat - v1.toNat)).getD v3.toNat (S_FoldPage.mk false 0 0 0)).f2), dI ((((y2.1.drop v1.toNat).take ((IntKind.i64.wrap (v1 + (2 : Int))).toNat - v1.toNat)).getD v3.toNat (S_FoldPage.mk false 0 0 0)).f3)]), (16, bx_Plate a0.f0), (64, .d (.sl 4 (((y2.1.drop v1.toNat).take ((IntKind.i64.wrap (v1 + (2 : Int))).toNat - v1.toNat)).map cS_FoldPage))), (65, dI z1), (66, dI v3), (74, dB z2)] [(1, (True) ∧ AVdB ((((y2.1.drop v1.toNat).take ((IntKind.i64.wrap (v1 + (2 : Int))).toNat - v1.toNat)).getD v3.toNat (S_FoldPage.mk false 0 0 0)).f0) = dB z2)] 0 (by kernel_rfl) (⟨trivial, (by subst hz2; rfl)⟩) ?_
                  refine T_cond z2 (by kernel_rfl) (fun hc => ?_) (fun hc => ?_)
                  · have h := cond_tt hc h
                    obtain hs := Option.some.inj h; subst hs
                    refine T_region_end [] [2, 3, 8, 9, 11, 12, 13, 14, 15, 16, 64, 65, 66] [] [(2, bx_BinderySheet a0), (3, bx_ImposeLayout a1), (8, bx_bindery_frame y1), (9, .d (.sl 4 (y2.1.map cS_FoldPage))), (11, oW5 v9), (12, dI v1), (13, .arr 68 3 (v2.map cS_Plate)), (14, dI v3), (15, .box [dB ((((y2.1.drop v1.toNat).take ((IntKind.i64.wrap (v1 + (2 : Int))).toNat - v1.toNat)).getD v3.toNat (S_FoldPage.mk false 0 0 0)).f0), dI ((((y2.1.drop v1.toNat).take ((IntKind.i64.wrap (v1 + (2 : Int))).toNat - v1.toNat)).getD v3.toNat (S_FoldPage.mk false 0 0 0)).f1), dI ((((y2.1.drop v1.toNat).take ((IntKind.i64.wrap (v1 + (2 : Int))).toNat - v1.toNat)).getD v3.toNat (S_FoldPage.mk false 0 0 0)).f2), dI ((((y2.1.drop v1.toNat).take ((IntKind.i64.wrap (v1 + (2 : Int))).toNat - v1.toNat)).getD v3.toNat (S_FoldPage.mk false 0 0 0)).f3)]), (16, bx_Plate a0.f1), (64, .d (.sl 4 (((y2.1.drop v1.toNat).take ((IntKind.i64.wrap (v1 + (2 : Int))).toNat - v1.toNat)).map cS_FoldPage))), (65, dI z1), (66, dI v3)] [] 3 (by kernel_rfl) (trivial) fun a w hm => then_norm (hm.co (cs := [.keep [2, 3, 8, 9, 11, 12, 13, 14, 15, 16, 64, 65, 66]]) (by show _ = _; kernel_rfl))
                  · have h := cond_ff hc h
                    obtain hs := Option.some.inj h; subst hs
                    refine T_skip fun a w hm => then_norm (hm.co (cs := [.keep [2, 3, 8, 9, 11, 12, 13, 14, 15, 16, 64, 65, 66]]) (by show _ = _; kernel_rfl))
                · obtain ⟨v4, v5, v6⟩ := s
                  try dsimp only at h
                  refine T_draw mixed [] [2, 3, 8, 9, 11, 12, 13, 14, 15, 16, 17, 18, 64, 65, 66] [] [(2, bx_BinderySheet a0), (3, bx_ImposeLayout a1), (8, bx_bindery_frame y1), (9, .d (.sl 4 (y2.1.map cS_FoldPage))), (11, oW5 v9), (12, dI v1), (13, .arr 68 3 (v2.map cS_Plate)), (14, dI v3), (15, .box [dB ((((y2.1.drop v1.toNat).take ((IntKind.i64.wrap (v1 + (2 : Int))).toNat - v1.toNat)).getD v3.toNat (S_FoldPage.mk false 0 0 0)).f0), dI ((((y2.1.drop v1.toNat).take ((IntKind.i64.wrap (v1 + (2 : Int))).toNat - v1.toNat)).getD v3.toNat (S_FoldPage.mk false 0 0 0)).f1), dI ((((y2.1.drop v1.toNat).take ((IntKind.i64.wrap (v1 + (2 : Int))).toNat - v1.toNat)).getD v3.toNat (S_FoldPage.mk false 0 0 0)).f2), dI ((((y2.1.drop v1.toNat).take ((IntKind.i64.wrap (v1 + (2 : Int))).toNat - v1.toNat)).getD v3.toNat (S_FoldPage.mk false 0 0 0)).f3)]), (16, .box [dI v4, dI v5, .d (.sl 1 (v6.map cU))]), (17, dI y1.f0), (18, dI y1.f1), (64, .d (.sl 4 (((y2.1.drop v1.toNat).take ((IntKind.i64.wrap (v1 + (2 : Int))).toNat - v1.toNat)).map cS_FoldPage))), (65, dI z1), (66, dI v3)] [] 6 (by kernel_rfl) (trivial) ?_
                  refine T_joinc h (fun (p : Int × Int) => [(2, bx_BinderySheet a0), (3, bx_ImposeLayout a1), (8, bx_bindery_frame y1), (9, .d (.sl 4 (y2.1.map cS_FoldPage))), (11, oW5 v9), (12, dI v1), (13, .arr 68 3 (v2.map cS_Plate)), (14, dI v3), (15, .box [dB ((((y2.1.drop v1.toNat).take ((IntKind.i64.wrap (v1 + (2 : Int))).toNat - v1.toNat)).getD v3.toNat (S_FoldPage.mk false 0 0 0)).f0), dI ((((y2.1.drop v1.toNat).take ((IntKind.i64.wrap (v1 + (2 : Int))).toNat - v1.toNat)).getD v3.toNat (S_FoldPage.mk false 0 0 0)).f1), dI ((((y2.1.drop v1.toNat).take ((IntKind.i64.wrap (v1 + (2 : Int))).toNat - v1.toNat)).getD v3.toNat (S_FoldPage.mk false 0 0 0)).f2), dI ((((y2.1.drop v1.toNat).take ((IntKind.i64.wrap (v1 + (2 : Int))).toNat - v1.toNat)).getD v3.toNat (S_FoldPage.mk false 0 0 0)).f3)]), (16, .box [dI v4, dI v5, .d (.sl 1 (v6.map cU))]), (17, dI p.1), (18, dI p.2), (64, .d (.sl 4 (((y2.1.drop v1.toNat).take ((IntKind.i64.wrap (v1 + (2 : Int))).toNat - v1.toNat)).map cS_FoldPage))), (65, dI z1), (66, dI v3)]) (fun s h => ?_) (fun s h => ?_)
                  · obtain ⟨z3, hz3, h⟩ := lett_ok h
                    refine T_region [(1, { rw := some (dI z3) })] [2, 3, 8, 9, 11, 12, 13, 14, 15, 16, 17, 18, 64, 65, 66, 84] [] [(2, bx_BinderySheet a0), (3, bx_ImposeLayout a1), (8, bx_bindery_frame y1), (9, .d (.sl 4 (y2.1.map cS_FoldPage))), (11, oW5 v9), (12, dI v1), (13, .arr 68 3 (v2.map cS_Plate)), (14, dI v3), (15, .box [dB ((((y2.1.drop v1.toNat).take ((IntKind.i64.wrap (v1 + (2 : Int))).toNat - v1.toNat)).getD v3.toNat (S_FoldPage.mk false 0 0 0)).f0), dI ((((y2.1.drop v1.toNat).take ((IntKind.i64.wrap (v1 + (2 : Int))).toNat - v1.toNat)).getD v3.toNat (S_FoldPage.mk false 0 0 0)).f1), dI ((((y2.1.drop v1.toNat).take ((IntKind.i64.wrap (v1 + (2 : Int))).toNat - v1.toNat)).getD v3.toNat (S_FoldPage.mk false 0 0 0)).f2), dI ((((y2.1.drop v1.toNat).take ((IntKind.i64.wrap (v1 + (2 : Int))).toNat - v1.toNat)).getD v3.toNat (S_FoldPage.mk false 0 0 0)).f3)]), (16, .box [dI v4, dI v5, .d (.sl 1 (v6.map cU))]), (17, dI y1.f0), (18, dI y1.f1), (64, .d (.sl 4 (((y2.1.drop v1.toNat).take ((IntKind.i64.wrap (v1 + (2 : Int))).toNat - v1.toNat)).map cS_FoldPage))), (65, dI z1), (66, dI v3), (84, dB ((z3.tmod (2 : Int)) == (1 : Int)))] [(1, (True) ∧ AVdI ((((y2.1.drop v1.toNat).take ((IntKind.i64.wrap (v1 + (2 : Int))).toNat - v1.toNat)).getD v3.toNat (S_FoldPage.mk false 0 0 0)).f3) = dI z3), (0, (2 : Int) ≠ 0)] 1 (by kernel_rfl) (⟨⟨trivial, (by subst hz3; rfl)⟩, (show (2 : Int) ≠ 0 by decide)⟩) ?_
                    refine T_cond ((z3.tmod (2 : Int)) == (1 : Int)) (by kernel_rfl) (fun hc => ?_) (fun hc => ?_)
                    · have h := cond_tt hc h
                      obtain hs := Option.some.inj h; subst hs
                      refine T_region_end [] [2, 3, 8, 9, 11, 12, 13, 14, 15, 16, 17, 18, 64, 65, 66] [] [(2, bx_BinderySheet a0), (3, bx_ImposeLayout a1), (8, bx_bindery_frame y1), (9, .d (.sl 4 (y2.1.map cS_FoldPage))), (11, oW5 v9), (12, dI v1), (13, .arr 68 3 (v2.map cS_Plate)), (14, dI v3), (15, .box [dB ((((y2.1.drop v1.toNat).take ((IntKind.i64.wrap (v1 + (2 : Int))).toNat - v1.toNat)).getD v3.toNat (S_FoldPage.mk false 0 0 0)).f0), dI ((((y2.1.drop v1.toNat).take ((IntKind.i64.wrap (v1 + (2 : Int))).toNat - v1.toNat)).getD v3.toNat (S_FoldPage.mk false 0 0 0)).f1), dI ((((y2.1.drop v1.toNat).take ((IntKind.i64.wrap (v1 + (2 : Int))).toNat - v1.toNat)).getD v3.toNat (S_FoldPage.mk false 0 0 0)).f2), dI ((((y2.1.drop v1.toNat).take ((IntKind.i64.wrap (v1 + (2 : Int))).toNat - v1.toNat)).getD v3.toNat (S_FoldPage.mk false 0 0 0)).f3)]), (16, .box [dI v4, dI v5, .d (.sl 1 (v6.map cU))]), (17, dI y1.f1), (18, dI y1.f0), (64, .d (.sl 4 (((y2.1.drop v1.toNat).take ((IntKind.i64.wrap (v1 + (2 : Int))).toNat - v1.toNat)).map cS_FoldPage))), (65, dI z1), (66, dI v3)] [] 4 (by kernel_rfl) (trivial) fun a w hm => then_norm (hm.co (cs := [.keep [2, 3, 8, 9, 11, 12, 13, 14, 15, 16, 17, 18, 64, 65, 66]]) (by show _ = _; kernel_rfl))
                    · have h := cond_ff hc h
                      obtain hs := Option.some.inj h; subst hs
                      refine T_skip fun a w hm => then_norm (hm.co (cs := [.keep [2, 3, 8, 9, 11, 12, 13, 14, 15, 16, 17, 18, 64, 65, 66]]) (by show _ = _; kernel_rfl))
                  · obtain ⟨v7, v8⟩ := s
                    try dsimp only at h
                    obtain ⟨z4, hz4, h⟩ := lett_ok h
                    obtain ⟨z5, hz5, h⟩ := lett_ok h
                    obtain ⟨z6, hz6, h⟩ := lett_ok h
                    obtain ⟨y3, hy5, h⟩ := call_ok h
                    obtain ⟨hp3, h⟩ := chk_ok h
                    refine T_region_end [(5, { rw := some (dI z4) }), (12, { rw := some (dI z5) }), (19, { rw := some (dI z6) }), (21, { res := .agg (cS_Plate y3) }), (23, { cs := cS_Plate (v2.getD v3.toNat (S_Plate.mk 0 0 [])), es := some ((v2.set v3.toNat y3).map cS_Plate) })] [2, 3, 8, 9, 11, 12, 13, 64, 65, 66] [] [(2, bx_BinderySheet a0), (3, bx_ImposeLayout a1), (8, bx_bindery_frame y1), (9, .d (.sl 4 (y2.1.map cS_FoldPage))), (11, oW5 v9), (12, dI v1), (13, .arr 68 3 ((v2.set v3.toNat y3).map cS_Plate)), (64, .d (.sl 4 (((y2.1.drop v1.toNat).take ((IntKind.i64.wrap (v1 + (2 : Int))).toNat - v1.toNat)).map cS_FoldPage))), (65, dI z1), (66, dI v3)] [(5, (True) ∧ AVdI ((((y2.1.drop v1.toNat).take ((IntKind.i64.wrap (v1 + (2 : Int))).toNat - v1.toNat)).getD v3.toNat (S_FoldPage.mk false 0 0 0)).f1) = dI z4), (6, (True) ∧ AVdI ((((y2.1.drop v1.toNat).take ((IntKind.i64.wrap (v1 + (2 : Int))).toNat - v1.toNat)).getD v3.toNat (S_FoldPage.mk false 0 0 0)).f2) = dI z5), (6, (True) ∧ AVdI ((((y2.1.drop v1.toNat).take ((IntKind.i64.wrap (v1 + (2 : Int))).toNat - v1.toNat)).getD v3.toNat (S_FoldPage.mk false 0 0 0)).f3) = dI z6), (1, ACall Try.prog 21 [.agg (cS_Plate (S_Plate.mk v4 v5 v6)), dI (IntKind.i64.wrap (a1.f6 + (IntKind.i64.wrap (z4 * v7)))), dI (IntKind.i64.wrap (a1.f6 + (IntKind.i64.wrap (z5 * v8)))), dI v7, dI v8, dI (IntKind.i64.wrap ((4 : Int) - z6))] [] (.agg (cS_Plate y3)) []), (0, 0 ≤ v3 ∧ v3 < 2), (0, (v2.map cS_Plate)[v3.toNat]? = some (cS_Plate (v2.getD v3.toNat (S_Plate.mk 0 0 []))) ∧ (v2.map cS_Plate).set v3.toNat (cS_Plate y3) = ((v2.set v3.toNat y3).map cS_Plate))] 0 (by kernel_rfl) (⟨⟨trivial, (by subst hz4; rfl)⟩, ⟨trivial, (by subst hz5; rfl)⟩, ⟨trivial, (by subst hz6; rfl)⟩, bindery_part_ok hy5, (hp3).1, ⟨(idx_ok (d := (S_Plate.mk 0 0 [])) cS_Plate ⟨(hp3).1.1, (hp3).2⟩).2, set_ok cS_Plate rfl⟩⟩) fun a w hm => inBlock_norm (then_norm (((?_ : T Try.prog e 120 _ _ _) a w hm)))
                    refine T_region_end [] [2, 3, 8, 9, 11, 12, 13, 64, 65, 66] [] [(2, bx_BinderySheet a0), (3, bx_ImposeLayout a1), (8, bx_bindery_frame y1), (9, .d (.sl 4 (y2.1.map cS_FoldPage))), (11, oW5 v9), (12, dI v1), (13, .arr 68 3 ((v2.set v3.toNat y3).map cS_Plate)), (64, .d (.sl 4 (((y2.1.drop v1.toNat).take ((IntKind.i64.wrap (v1 + (2 : Int))).toNat - v1.toNat)).map cS_FoldPage))), (65, dI z1), (66, dI (IntKind.i64.wrap (v3 + (1 : Int))))] [] 2 (by kernel_rfl) (trivial) fun a w hm => then_norm (⟨((v2.set v3.toNat y3), IntKind.i64.wrap (v3 + (1 : Int))), h, hm.co (cs := [.keep [2, 3, 8, 9, 11, 12, 13, 64, 65, 66]]) (by show _ = _; kernel_rfl)⟩)
              · have h := cond_ff hc h
                obtain hs := Option.some.inj h; subst hs
                refine T_exit fun a w hm => then_exit (then_exit (inBlock_exit (then_norm (hm.co (cs := [.keep [2, 3, 8, 9, 11, 12, 13]]) (by show _ = _; kernel_rfl)))))
            · skip
              refine fun a w hm => then_norm (((?_ : T Try.prog e 120 _ _ _) a w hm))
              obtain ⟨hp4, h⟩ := chk_ok h
              obtain ⟨hp5, h⟩ := chk_ok h
              obtain ⟨hp6, h⟩ := chk_ok h
              obtain ⟨l1, hl1, h⟩ := lett_ok h
              refine T_region_end [(2, { cs := cS_Plate (v10.getD (0 : Int).toNat (S_Plate.mk 0 0 [])) }), (4, { cs := cS_Plate (v10.getD (1 : Int).toNat (S_Plate.mk 0 0 [])) }), (6, { es := some (([(S_BinderyLeaf.mk (v10.getD (0 : Int).toNat (S_Plate.mk 0 0 [])) (v10.getD (1 : Int).toNat (S_Plate.mk 0 0 [])))]).map cS_BinderyLeaf) }), (7, { es := some (l1.map cS_BinderyLeaf) })] [2, 3, 8, 9, 11, 12] [] [(2, bx_BinderySheet a0), (3, bx_ImposeLayout a1), (8, bx_bindery_frame y1), (9, .d (.sl 4 (y2.1.map cS_FoldPage))), (11, oW5 l1), (12, dI v1)] [(1, 0 ≤ (0 : Int) ∧ (0 : Int) < 2), (0, (v10.map cS_Plate)[(0 : Int).toNat]? = some (cS_Plate (v10.getD (0 : Int).toNat (S_Plate.mk 0 0 [])))), (0, 0 ≤ (1 : Int) ∧ (1 : Int) < 2), (0, (v10.map cS_Plate)[(1 : Int).toNat]? = some (cS_Plate (v10.getD (1 : Int).toNat (S_Plate.mk 0 0 [])))), (1, (([(S_BinderyLeaf.mk (v10.getD (0 : Int).toNat (S_Plate.mk 0 0 [])) (v10.getD (1 : Int).toNat (S_Plate.mk 0 0 [])))]).map cS_BinderyLeaf) = (([(S_BinderyLeaf.mk (v10.getD (0 : Int).toNat (S_Plate.mk 0 0 [])) (v10.getD (1 : Int).toNat (S_Plate.mk 0 0 [])))]).map cS_BinderyLeaf)), (0, (v9.map cS_BinderyLeaf).length + (([(S_BinderyLeaf.mk (v10.getD (0 : Int).toNat (S_Plate.mk 0 0 [])) (v10.getD (1 : Int).toNat (S_Plate.mk 0 0 [])))]).map cS_BinderyLeaf).length ≤ 4294967296 ∧ (v9.map cS_BinderyLeaf) ++ (([(S_BinderyLeaf.mk (v10.getD (0 : Int).toNat (S_Plate.mk 0 0 [])) (v10.getD (1 : Int).toNat (S_Plate.mk 0 0 [])))]).map cS_BinderyLeaf) = (l1.map cS_BinderyLeaf))] 1 (by kernel_rfl) (⟨(hp4).1, (idx_ok (d := (S_Plate.mk 0 0 [])) cS_Plate ⟨(hp4).1.1, (hp4).2⟩).2, (hp5).1, (idx_ok (d := (S_Plate.mk 0 0 [])) cS_Plate ⟨(hp5).1.1, (hp5).2⟩).2, rfl, and_trans (app_ok cS_BinderyLeaf hp6) (by subst hl1; rfl)⟩) fun a w hm => inBlock_norm (then_norm (((?_ : T Try.prog e 120 _ _ _) a w hm)))
              refine T_region_end [] [2, 3, 8, 9, 11, 12] [] [(2, bx_BinderySheet a0), (3, bx_ImposeLayout a1), (8, bx_bindery_frame y1), (9, .d (.sl 4 (y2.1.map cS_FoldPage))), (11, oW5 l1), (12, dI (IntKind.i64.wrap (v1 + (2 : Int))))] [] 3 (by kernel_rfl) (trivial) fun a w hm => then_norm (⟨(l1, IntKind.i64.wrap (v1 + (2 : Int))), h, hm.co (cs := [.keep [2, 3, 8, 9, 11, 12]]) (by show _ = _; kernel_rfl)⟩)
          · have h := cond_ff hc h
            obtain hs := Option.some.inj h; subst hs
            refine T_exit fun a w hm => then_exit (then_exit (inBlock_exit (then_norm (hm.co (cs := [.keep [11]]) (by show _ = _; kernel_rfl)))))
        · skip
          refine fun a w hm => then_norm (((?_ : T Try.prog e 120 _ _ _) a w hm))
          refine T_region [] [4, 5, 11] [] [(4, .vw (11, 0)), (5, dI (0 : Int)), (11, oW5 v11)] [] 3 (by kernel_rfl) (trivial) ?_
          obtain hs := Option.some.inj h; subst hs
          refine T_ret fun a w hm => T_return (fr' := [(4, oW5 v11), (5, dI (0 : Int))]) [4, 5] (by kernel_rfl) [.claim 4, .keep [4, 5]] (by kernel_rfl) (by kernel_rfl) (by kernel_rfl) (by show _ = _; kernel_rfl) (by exact trivial) a w hm

end Go.Vm.BinG
