import Derived.Test.YteidenpelbooeaaProg
import Derived.Test.YteidenpelbooeaaBinH
namespace Go.Vm.BinG
open Go.Proofs
abbrev dI (x : Int) : AV := .d (.v (.int .i64 x))
abbrev dB (x : Bool) : AV := .d (.v (.bool x))
abbrev bx_Plate (x : S_Plate) : AV := .box [.d (.v (.int .i64 x.f0)), .d (.v (.int .i64 x.f1)), .d (.sl 1 (x.f2.map cU))]
abbrev bx_FoldStep (x : S_FoldStep) : AV := .box [.d (.v (.int .i64 x.f0)), .d (.v (.int .i64 x.f1)), .d (.v (.bool x.f2))]
abbrev bx_FoldScheme (x : S_FoldScheme) : AV := .box [.d (.v (.int .i64 x.f0)), .d (.v (.int .i64 x.f1)), .d (.sl 3 (x.f2.map cS_FoldStep))]
abbrev bx_ImposeLayout (x : S_ImposeLayout) : AV := .box [.d (.v (.int .i64 x.f0.f0)), .d (.v (.int .i64 x.f0.f1)), .d (.sl 3 (x.f0.f2.map cS_FoldStep)), .d (.v (.int .i64 x.f1)), .d (.v (.int .i64 x.f2)), .d (.v (.int .i64 x.f3)), .d (.v (.int .i64 x.f4)), .d (.v (.int .i64 x.f5)), .d (.v (.int .i64 x.f6)), .d (.v (.int .i64 x.f7)), .d (.v (.int .i64 x.f8))]
abbrev bx_BinderySheet (x : S_BinderySheet) : AV := .box [.d (.v (.int .i64 x.f0.f0)), .d (.v (.int .i64 x.f0.f1)), .d (.sl 1 (x.f0.f2.map cU)), .d (.v (.int .i64 x.f1.f0)), .d (.v (.int .i64 x.f1.f1)), .d (.sl 1 (x.f1.f2.map cU))]
abbrev bx_bindery_frame (x : S_bindery_frame) : AV := .box [.d (.v (.int .i64 x.f0)), .d (.v (.int .i64 x.f1)), .d (.v (.int .i64 x.f2)), .d (.v (.int .i64 x.f3))]
abbrev bx_fold_sheet (x : S_fold_sheet) : AV := .box [.d (.v (.int .i64 x.f0)), .d (.v (.int .i64 x.f1)), .d (.sl 1 (x.f2.map (cL 4 cS_FoldLeaf)))]
abbrev oW0 (x : List UInt8) : AV := .own 5 1 (x.map cU)
abbrev oW1 (x : List S_BinderySheet) : AV := .own 36 6 (x.map cS_BinderySheet)
abbrev oW2 (x : List (List S_FoldLeaf)) : AV := .own 104 1 (x.map (cL 4 cS_FoldLeaf))
abbrev oW3 (x : List S_FoldLeaf) : AV := .own 108 4 (x.map cS_FoldLeaf)
abbrev oW4 (x : List S_FoldPage) : AV := .own 70 4 (x.map cS_FoldPage)
abbrev oW5 (x : List S_BinderyLeaf) : AV := .own 51 6 (x.map cS_BinderyLeaf)
abbrev oW6 (x : List Int) : AV := .own 3 1 (x.map (cI .i64))
set_option maxRecDepth 20000
theorem mixed : Try.prog.follows .mixedOrders = true := by kernel_rfl
theorem law3_dots_ok {F : Nat} {a0 : Int} {a1 : Int} {a2 : Int} {r : S_Plate} (h : law3_dots F a0 a1 a2 = some r) : ACall Try.prog 7 [.d (.v (.int .i64 a0)), .d (.v (.int .i64 a1)), .d (.v (.int .i64 a2))] [] (.agg (cS_Plate r)) [] := by
  rw [law3_dots] at h
  refine ACall.intro (N := 34) Try.func7 rfl rfl rfl rfl rfl fun e => ?_
  refine T_region [] [0, 1, 2, 6] [] [(0, dI a0), (1, dI a1), (2, dI a2), (6, .box [dI 0, dI 0, oW0 []])] [] 1 (by kernel_rfl) (trivial) ?_
  refine T_region [(2, { take := [0] })] [0, 1, 2, 6, 7] [.nilc 7 2 5 1, .keep [0, 1, 2, 6, 7]] [(0, dI a0), (1, dI a1), (2, dI a2), (6, .box [dI 0, dI 0, oW0 []]), (7, .box [dI a0, dI a1, oW0 []])] [] 5 (by kernel_rfl) (trivial) ?_
  refine T_seqk ?_
  refine T_region [] [2, 6, 7, 14, 15] [] [(2, dI a2), (6, .box [dI 0, dI 0, oW0 []]), (7, .box [dI a0, dI a1, oW0 []]), (14, dI (IntKind.i64.wrap (a0 * a1))), (15, dI (0 : Int))] [] 4 (by kernel_rfl) (trivial) ?_
  refine T_joinct h (fun (p : (List UInt8)) => [(6, .box [dI 0, dI 0, oW0 []]), (7, .box [dI a0, dI a1, oW0 p])]) (fun s h => ?_) (fun v3 h => ?_)
  · refine T_co [.keep [2, 6, 7, 14, 15]] ((fun (p : (List UInt8) × Int) => [(2, dI a2), (6, .box [dI 0, dI 0, oW0 []]), (7, .box [dI a0, dI a1, oW0 p.1]), (14, dI (IntKind.i64.wrap (a0 * a1))), (15, dI p.2)]) ([], (0 : Int))) (by show _ = _; kernel_rfl) ?_
    refine T_block ?_
    refine T_loopF (ι := (List UInt8) × Int) (fun (p : (List UInt8) × Int) => [(2, dI a2), (6, .box [dI 0, dI 0, oW0 []]), (7, .box [dI a0, dI a1, oW0 p.1]), (14, dI (IntKind.i64.wrap (a0 * a1))), (15, dI p.2)]) (fun n p => law3_dots_L0 F a0 a1 a2 n p.1 p.2 = some s) (fun i hh => by simp [law3_dots_L0] at hh) (fun n p h => ?_) F ([], (0 : Int)) h
    obtain ⟨v1, v2⟩ := p
    have h : law3_dots_L0 F a0 a1 a2 (n + 1) v1 v2 = some s := h
    rw [law3_dots_L0] at h
    refine T_region [] [2, 6, 7, 14, 15, 16] [] [(2, dI a2), (6, .box [dI 0, dI 0, oW0 []]), (7, .box [dI a0, dI a1, oW0 v1]), (14, dI (IntKind.i64.wrap (a0 * a1))), (15, dI v2), (16, dB (decide (v2 < (IntKind.i64.wrap (a0 * a1)))))] [] 1 (by kernel_rfl) (trivial) ?_
    refine T_seqk ?_
    refine T_cond (decide (v2 < (IntKind.i64.wrap (a0 * a1)))) (by kernel_rfl) (fun hc => ?_) (fun hc => ?_)
    · have h := cond_tt hc h
      refine T_skip fun a w hm => then_norm (((?_ : T Try.prog e 34 _ _ _) a w hm))
      refine T_seqk ?_
      refine T_block ?_
      refine T_region [] [2, 6, 7, 8, 14, 15] [] [(2, dI a2), (6, .box [dI 0, dI 0, oW0 []]), (7, .box [dI a0, dI a1, oW0 v1]), (8, dI v2), (14, dI (IntKind.i64.wrap (a0 * a1))), (15, dI v2)] [] 2 (by kernel_rfl) (trivial) ?_
      obtain ⟨z1, hz1, h⟩ := lett_ok h
      obtain ⟨hp1, h⟩ := chk_ok h
      obtain ⟨hp2, h⟩ := chk_ok h
      refine T_region_end [(9, { rw := some (dI z1) }), (11, { es := some (([(UInt8.ofNat (IntKind.u8.wrap z1).toNat)]).map cU) }), (12, { es := some ((v1 ++ ([(UInt8.ofNat (IntKind.u8.wrap z1).toNat)])).map cU) })] [2, 6, 7, 14, 15] [] [(2, dI a2), (6, .box [dI 0, dI 0, oW0 []]), (7, .box [dI a0, dI a1, .own 5 1 ((v1 ++ ([(UInt8.ofNat (IntKind.u8.wrap z1).toNat)])).map cU)]), (14, dI (IntKind.i64.wrap (a0 * a1))), (15, dI v2)] [(9, (True) ∧ dI (IntKind.i64.wrap ((IntKind.i64.wrap (a2 + (IntKind.i64.wrap (v2 * (7 : Int))))) + (IntKind.i64.wrap (v2 * v2)))) = dI z1), (1, [[Dat.v (.int .u8 (IntKind.u8.wrap z1))]] = (([(UInt8.ofNat (IntKind.u8.wrap z1).toNat)]).map cU)), (0, (v1.map cU).length + (([(UInt8.ofNat (IntKind.u8.wrap z1).toNat)]).map cU).length ≤ 4294967296 ∧ (v1.map cU) ++ (([(UInt8.ofNat (IntKind.u8.wrap z1).toNat)]).map cU) = ((v1 ++ ([(UInt8.ofNat (IntKind.u8.wrap z1).toNat)])).map cU))] 2 (by kernel_rfl) (⟨⟨trivial, (by subst hz1; rfl)⟩, (lit_u hp1 (rfl : ([] : List (List Dat)) = ([] : List UInt8).map cU)), app_ok cU hp2⟩) fun a w hm => inBlock_norm (then_norm (((?_ : T Try.prog e 34 _ _ _) a w hm)))
      refine T_region_end [] [2, 6, 7, 14, 15] [] [(2, dI a2), (6, .box [dI 0, dI 0, oW0 []]), (7, .box [dI a0, dI a1, .own 5 1 ((v1 ++ ([(UInt8.ofNat (IntKind.u8.wrap z1).toNat)])).map cU)]), (14, dI (IntKind.i64.wrap (a0 * a1))), (15, dI (IntKind.i64.wrap (v2 + (1 : Int))))] [] 2 (by kernel_rfl) (trivial) fun a w hm => then_norm (⟨((v1 ++ ([(UInt8.ofNat (IntKind.u8.wrap z1).toNat)])), IntKind.i64.wrap (v2 + (1 : Int))), h, hm.co (cs := [.keep [2, 6, 7, 14, 15]]) (by show _ = _; kernel_rfl)⟩)
    · have h := cond_ff hc h
      obtain hs := Option.some.inj h; subst hs
      refine T_exit fun a w hm => then_exit (then_exit (inBlock_exit (then_norm (hm.co (cs := [.keep [6, 7]]) (by show _ = _; kernel_rfl)))))
  · skip
    refine fun a w hm => then_norm (((?_ : T Try.prog e 34 _ _ _) a w hm))
    refine T_region [(0, { frz := [(7, 3)] })] [6] [] [(6, .box [dI a0, dI a1, .d (.sl 1 (v3.map cU))])] [] 2 (by kernel_rfl) (trivial) ?_
    obtain hs := Option.some.inj h; subst hs
    refine T_ret fun a w hm => T_returnC (fr' := [(6, .box [dI a0, dI a1, .d (.sl 1 (v3.map cU))])]) (ts := [34]) (N' := 35) (fr2 := [(34, .agg (cS_Plate (S_Plate.mk a0 a1 v3)))] ++ [(6, .box [dI a0, dI a1, .d (.sl 1 (v3.map cU))])]) [.keep [6]] (by kernel_rfl) (by kernel_rfl) (by kernel_rfl) (by kernel_rfl) (by show _ = _; kernel_rfl) (by exact trivial) a w hm

theorem slices_Clone_uint8_ok {F : Nat} {a0 : List UInt8} {r : (List UInt8)} (h : slices_Clone_uint8 F a0 = some r) : ACall Try.prog 57 [.d (.sl 1 (a0.map cU))] [] (.own 5 1 (r.map cU)) [] := by
  rw [slices_Clone_uint8] at h
  refine ACall.intro (N := 8) Try.func57 rfl rfl rfl rfl rfl fun e => ?_
  refine T_region [] [0] [] [(0, .d (.sl 1 (a0.map cU)))] [] 1 (by kernel_rfl) (trivial) ?_
  refine T_seqk ?_
  refine T_nilTest (sz := 1) (es := (a0.map cU)) 0 3 4 22 (by kernel_rfl) (by kernel_rfl) (by kernel_rfl) (by kernel_rfl) [0] [(0, .d (.sl 1 (a0.map cU)))] (fun _ => by kernel_rfl) (fun hnil => ?_) ?_
  · replace hnil := List.map_eq_nil_iff.1 hnil
    have h : (some []) = some r := by subst hnil; exact h
    refine T_region [] [2] [] [(2, oW0 [])] [] 1 (by kernel_rfl) (trivial) ?_
    obtain hs := Option.some.inj h; subst hs
    refine T_ret fun a w hm => then_ret (T_return (fr' := [(2, oW0 [])]) [2] (by kernel_rfl) [.keep [2]] (by kernel_rfl) (by kernel_rfl) (by kernel_rfl) (by show _ = _; kernel_rfl) (by exact trivial) a w hm)
  · skip
    refine T_skip fun a w hm => then_norm (((?_ : T Try.prog e 8 _ _ _) a w hm))
    obtain ⟨hp1, h⟩ := chk_ok h
    refine T_region [(2, { es := some ((([] : List UInt8) ++ a0).map cU) })] [2] [] [(2, .own 5 1 ((([] : List UInt8) ++ a0).map cU))] [(0, ([] : List (List Dat)) = []), (1, (([] : List UInt8).map cU).length + (a0.map cU).length ≤ 4294967296 ∧ (([] : List UInt8).map cU) ++ (a0.map cU) = ((([] : List UInt8) ++ a0).map cU))] 1 (by kernel_rfl) (⟨rfl, app_ok cU hp1⟩) ?_
    obtain hs := Option.some.inj h; subst hs
    refine T_ret fun a w hm => T_return (fr' := [(2, .own 5 1 ((([] : List UInt8) ++ a0).map cU))]) [2] (by kernel_rfl) [.keep [2]] (by kernel_rfl) (by kernel_rfl) (by kernel_rfl) (by show _ = _; kernel_rfl) (by exact trivial) a w hm

theorem raster_Of_ok {F : Nat} {a0 : S_Plate} {r : S_Plate} (h : raster_Of F a0 = some r) : ACall Try.prog 37 [.agg (cS_Plate a0)] [] (.agg (cS_Plate r)) [] := by
  rw [raster_Of] at h
  refine ACall.intro (N := 11) Try.func37 rfl rfl rfl rfl rfl fun e => ?_
  refine T_region [] [1, 2] [] [(1, bx_Plate a0), (2, .box [dI 0, dI 0, oW0 []])] [] 2 (by kernel_rfl) (trivial) ?_
  obtain ⟨y1, hy1, h⟩ := call_ok h
  refine T_drawX mixed 12 (.take 0 (.take 2 (.take 4 (.all (.alt 1 (.all (.alt 3 (.all (.alt 5 (.all (.alt 6 (.all (.alt 7 (.all (.alt 8 .done .stop)) .stop)) .stop)) .stop)) (.alt 5 (.all (.alt 3 (.all (.alt 6 (.all (.alt 7 (.all (.alt 8 .done .stop)) .stop)) .stop)) (.alt 6 (.all (.alt 3 (.all (.alt 7 (.all (.alt 8 .done .stop)) .stop)) .stop)) .stop))) .stop))) (.alt 3 (.all (.alt 1 (.all (.alt 5 (.all (.alt 6 (.all (.alt 7 (.all (.alt 8 .done .stop)) .stop)) .stop)) .stop)) (.alt 5 (.all (.alt 1 (.all (.alt 6 (.all (.alt 7 (.all (.alt 8 .done .stop)) .stop)) .stop)) (.alt 6 (.all (.alt 1 (.all (.alt 7 (.all (.alt 8 .done .stop)) .stop)) .stop)) .stop))) .stop))) (.alt 5 (.all (.alt 1 (.all (.alt 3 (.all (.alt 6 (.all (.alt 7 (.all (.alt 8 .done .stop)) .stop)) .stop)) (.alt 6 (.all (.alt 3 (.all (.alt 7 (.all (.alt 8 .done .stop)) .stop)) .stop)) .stop))) (.alt 3 (.all (.alt 1 (.all (.alt 6 (.all (.alt 7 (.all (.alt 8 .done .stop)) .stop)) .stop)) (.alt 6 (.all (.alt 1 (.all (.alt 7 (.all (.alt 8 .done .stop)) .stop)) .stop)) .stop))) (.alt 6 (.all (.alt 1 (.all (.alt 3 (.all (.alt 7 (.all (.alt 8 .done .stop)) .stop)) .stop)) (.alt 3 (.all (.alt 1 (.all (.alt 7 (.all (.alt 8 .done .stop)) .stop)) .stop)) .stop))) .stop)))) .stop))))))) ([0, 1, 0, 4, 0, 16, 32, 74, 255], [0, 1, 0, 4, 0, 16, 32, 74, 128]) 21 [(6, { res := oW0 y1 }), (7, { frz := [(9, 0)] })] [2] [] [(2, .box [dI a0.f0, dI a0.f1, .d (.sl 1 (y1.map cU))])] ((fun (o6 : Prop) => [(6, o6), (4, o6), (2, o6), (6, o6), (4, o6), (2, o6), (6, o6), (2, o6), (5, o6), (2, o6), (3, o6)]) (ACall Try.prog 57 [.d (.sl 1 (a0.f2.map cU))] [] (oW0 y1) [])) 8 (by kernel_rfl) (by kernel_rfl) (by kernel_rfl) (have p6 := slices_Clone_uint8_ok hy1; ⟨p6, p6, p6, p6, p6, p6, p6, p6, p6, p6, p6⟩) ?_
  obtain hs := Option.some.inj h; subst hs
  refine T_ret fun a w hm => T_returnC (fr' := [(2, .box [dI a0.f0, dI a0.f1, .d (.sl 1 (y1.map cU))])]) (ts := [11]) (N' := 12) (fr2 := [(11, .agg (cS_Plate (S_Plate.mk a0.f0 a0.f1 y1)))] ++ [(2, .box [dI a0.f0, dI a0.f1, .d (.sl 1 (y1.map cU))])]) [.keep [2]] (by kernel_rfl) (by kernel_rfl) (by kernel_rfl) (by kernel_rfl) (by show _ = _; kernel_rfl) (by exact trivial) a w hm

theorem raster_sized_ok {F : Nat} {a0 : Int} {a1 : Int} {r : Bool} (h : raster_sized F a0 a1 = some r) : ACall Try.prog 52 [.d (.v (.int .i64 a0)), .d (.v (.int .i64 a1))] [] (.d (.v (.bool r))) [] := by
  rw [raster_sized] at h
  refine ACall.intro (N := 19) Try.func52 rfl rfl rfl rfl rfl fun e => ?_
  refine T_region [] [0, 1] [] [(0, dI a0), (1, dI a1)] [] 1 (by kernel_rfl) (trivial) ?_
  obtain ⟨z1, hz1, h⟩ := lett_ok h
  refine T_region [(9, { rw := some (dB z1) })] [4] [] [(4, dB (bif z1 then (decide (a1 ≤ (1024 : Int))) else false))] [(3, ((((decide (a0 ≥ (1 : Int))) == true) && true) = true → True)), (0, ((((decide (a0 ≥ (1 : Int))) == true) && true) = true → True)), (2, ((((bif (decide (a0 ≥ (1 : Int))) then (decide (a0 ≤ (1024 : Int))) else false) == true) && true) = true → True)), (0, ((((bif (decide (a0 ≥ (1 : Int))) then (decide (a0 ≤ (1024 : Int))) else false) == true) && true) = true → True)), (0, (True) ∧ dB (bif (bif (decide (a0 ≥ (1 : Int))) then (decide (a0 ≤ (1024 : Int))) else false) then (decide (a1 ≥ (1 : Int))) else false) = dB z1), (1, (((z1 == true) && true) = true → True)), (0, (((z1 == true) && true) = true → True))] 2 (by kernel_rfl) (⟨(fun hg => trivial), (fun hg => trivial), (fun hg => trivial), (fun hg => trivial), ⟨trivial, (by subst hz1; rfl)⟩, (fun hg => trivial), (fun hg => trivial)⟩) ?_
  obtain hs := Option.some.inj h; subst hs
  refine T_ret fun a w hm => T_return (fr' := [(4, dB (bif z1 then (decide (a1 ≤ (1024 : Int))) else false))]) [4] (by kernel_rfl) [.keep [4]] (by kernel_rfl) (by kernel_rfl) (by kernel_rfl) (by show _ = _; kernel_rfl) (by exact trivial) a w hm

theorem raster_Grid_uint8_Check_ok {F : Nat} {a0 : S_Plate} {r : Int} (h : raster_Grid_uint8_Check F a0 = some r) : ACall Try.prog 41 [.agg (cS_Plate a0)] [] (.d (.v (.int .i64 r))) [] := by
  rw [raster_Grid_uint8_Check] at h
  refine ACall.intro (N := 18) Try.func41 rfl rfl rfl rfl rfl fun e => ?_
  refine T_region [] [1] [] [(1, bx_Plate a0)] [] 2 (by kernel_rfl) (trivial) ?_
  refine T_seqk ?_
  obtain ⟨y1, hy1, h⟩ := call_ok h
  refine T_region [(4, { res := dB y1 })] [1, 8] [] [(1, bx_Plate a0), (8, dB (!y1))] [(4, ACall Try.prog 52 [dI a0.f0, dI a0.f1] [] (dB y1) [])] 1 (by kernel_rfl) (raster_sized_ok hy1) ?_
  refine T_cond (!y1) (by kernel_rfl) (fun hc => ?_) (fun hc => ?_)
  · have h := cond_tt hc h
    refine T_region [] [2] [] [(2, dI (3 : Int))] [] 1 (by kernel_rfl) (trivial) ?_
    obtain hs := Option.some.inj h; subst hs
    refine T_ret fun a w hm => then_ret (T_return (fr' := [(2, dI (3 : Int))]) [2] (by kernel_rfl) [.keep [2]] (by kernel_rfl) (by kernel_rfl) (by kernel_rfl) (by show _ = _; kernel_rfl) (by exact trivial) a w hm)
  · have h := cond_ff hc h
    refine T_skip fun a w hm => then_norm (((?_ : T Try.prog e 18 _ _ _) a w hm))
    refine T_seqk ?_
    refine T_region [(2, { rw := some (dI (a0.f2.length : Int)) })] [17] [] [(17, dB ((a0.f2.length : Int) != (IntKind.i64.wrap (a0.f0 * a0.f1))))] [(2, True ∧ dI ((a0.f2.map cU).length : Int) = dI (a0.f2.length : Int))] 6 (by kernel_rfl) (len_ok cU) ?_
    refine T_cond ((a0.f2.length : Int) != (IntKind.i64.wrap (a0.f0 * a0.f1))) (by kernel_rfl) (fun hc => ?_) (fun hc => ?_)
    · have h := cond_tt hc h
      refine T_region [] [2] [] [(2, dI (4 : Int))] [] 1 (by kernel_rfl) (trivial) ?_
      obtain hs := Option.some.inj h; subst hs
      refine T_ret fun a w hm => then_ret (T_return (fr' := [(2, dI (4 : Int))]) [2] (by kernel_rfl) [.keep [2]] (by kernel_rfl) (by kernel_rfl) (by kernel_rfl) (by show _ = _; kernel_rfl) (by exact trivial) a w hm)
    · have h := cond_ff hc h
      refine T_skip fun a w hm => then_norm (((?_ : T Try.prog e 18 _ _ _) a w hm))
      refine T_region [] [2] [] [(2, dI (0 : Int))] [] 1 (by kernel_rfl) (trivial) ?_
      obtain hs := Option.some.inj h; subst hs
      refine T_ret fun a w hm => T_return (fr' := [(2, dI (0 : Int))]) [2] (by kernel_rfl) [.keep [2]] (by kernel_rfl) (by kernel_rfl) (by kernel_rfl) (by show _ = _; kernel_rfl) (by exact trivial) a w hm

theorem bindery_sides_ok {F : Nat} {a0 : S_Plate} {a1 : S_Plate} {r : Int} (h : bindery_sides F a0 a1 = some r) : ACall Try.prog 20 [.agg (cS_Plate a0), .agg (cS_Plate a1)] [] (.d (.v (.int .i64 r))) [] := by
  rw [bindery_sides] at h
  refine ACall.intro (N := 33) Try.func20 rfl rfl rfl rfl rfl fun e => ?_
  refine T_region [] [2, 3] [] [(2, bx_Plate a0), (3, bx_Plate a1)] [] 3 (by kernel_rfl) (trivial) ?_
  refine T_seqk ?_
  refine T_region [] [2, 3, 10, 11] [] [(2, bx_Plate a0), (3, bx_Plate a1), (10, .agg (cS_arr2_SPlate (S_arr2_SPlate.mk a0 a1))), (11, dI (0 : Int))] [] 4 (by kernel_rfl) (trivial) ?_
  refine T_joinEt h (fun (p : Unit) => [(2, bx_Plate a0), (3, bx_Plate a1)]) (fun s h hk1 => ?_) (fun s h => ?_)
  · refine T_co [.keep [2, 3, 10, 11]] ((fun (p : Int) => [(2, bx_Plate a0), (3, bx_Plate a1), (10, .agg (cS_arr2_SPlate (S_arr2_SPlate.mk a0 a1))), (11, dI p)]) (0 : Int)) (by show _ = _; kernel_rfl) ?_
    refine T_block ?_
    refine T_loopF (ι := Int) (fun (p : Int) => [(2, bx_Plate a0), (3, bx_Plate a1), (10, .agg (cS_arr2_SPlate (S_arr2_SPlate.mk a0 a1))), (11, dI p)]) (fun n p => bindery_sides_L0 F a0 a1 n p = some s) (fun i hh => by simp [bindery_sides_L0] at hh) (fun n v1 h => ?_) F (0 : Int) h
    have h : bindery_sides_L0 F a0 a1 (n + 1) v1 = some s := h
    rw [bindery_sides_L0] at h
    refine T_region [] [2, 3, 10, 11, 12] [] [(2, bx_Plate a0), (3, bx_Plate a1), (10, .agg (cS_arr2_SPlate (S_arr2_SPlate.mk a0 a1))), (11, dI v1), (12, dB (decide (v1 < (2 : Int))))] [] 1 (by kernel_rfl) (trivial) ?_
    refine T_seqk ?_
    refine T_cond (decide (v1 < (2 : Int))) (by kernel_rfl) (fun hc => ?_) (fun hc => ?_)
    · have h := cond_tt hc h
      refine T_skip fun a w hm => then_norm (((?_ : T Try.prog e 33 _ _ _) a w hm))
      refine T_seqk ?_
      refine T_block ?_
      obtain ⟨hp1, h⟩ := chk_ok h
      refine T_region [(0, { cs := cS_Plate ([a0, a1].getD v1.toNat (S_Plate.mk 0 0 [])) })] [2, 3, 6, 10, 11] [] [(2, bx_Plate a0), (3, bx_Plate a1), (6, .box [dI (([a0, a1].getD v1.toNat (S_Plate.mk 0 0 [])).f0), dI (([a0, a1].getD v1.toNat (S_Plate.mk 0 0 [])).f1), .d (.sl 1 ((([a0, a1].getD v1.toNat (S_Plate.mk 0 0 [])).f2).map cU))]), (10, .agg (cS_arr2_SPlate (S_arr2_SPlate.mk a0 a1))), (11, dI v1)] [(0, (0 ≤ v1 ∧ v1 < 2) ∧ cS_Plate ([a0, a1].getD v1.toNat (S_Plate.mk 0 0 [])) = ((cS_arr2_SPlate (S_arr2_SPlate.mk a0 a1)).drop (v1.toNat * 3)).take 3)] 2 (by kernel_rfl) (⟨hp1, arr_ok (d := (S_Plate.mk 0 0 [])) cS_Plate 3 2 [a0, a1] rfl (fun _ => rfl) hp1 rfl⟩) ?_
      obtain ⟨y1, hy1, h⟩ := call_ok h
      obtain ⟨y2, hy2, h⟩ := call_ok h
      refine T_region [(1, { res := .agg (cS_Plate y1) }), (2, { res := dI y2 })] [2, 3, 7, 10, 11] [] [(2, bx_Plate a0), (3, bx_Plate a1), (7, dI y2), (10, .agg (cS_arr2_SPlate (S_arr2_SPlate.mk a0 a1))), (11, dI v1)] [(1, ACall Try.prog 37 [.agg (cS_Plate (S_Plate.mk (([a0, a1].getD v1.toNat (S_Plate.mk 0 0 [])).f0) (([a0, a1].getD v1.toNat (S_Plate.mk 0 0 [])).f1) (([a0, a1].getD v1.toNat (S_Plate.mk 0 0 [])).f2)))] [] (.agg (cS_Plate y1)) []), (0, ACall Try.prog 41 [.agg (cS_Plate y1)] [] (dI y2) [])] 1 (by kernel_rfl) (⟨raster_Of_ok hy1, raster_Grid_uint8_Check_ok hy2⟩) ?_
      refine T_region [] [2, 3, 7, 10, 11, 18] [] [(2, bx_Plate a0), (3, bx_Plate a1), (7, dI y2), (10, .agg (cS_arr2_SPlate (S_arr2_SPlate.mk a0 a1))), (11, dI v1), (18, dB (y2 != (0 : Int)))] [] 2 (by kernel_rfl) (trivial) ?_
      refine T_cond (y2 != (0 : Int)) (by kernel_rfl) (fun hc => ?_) (fun hc => ?_)
      · have h := cond_tt hc h
        refine T_region [] [4] [] [(4, dI y2)] [] 2 (by kernel_rfl) (trivial) ?_
        obtain hs := Option.some.inj h; subst hs
        have h := callE_esc hk1
        obtain hs := Option.some.inj h; subst hs
        refine T_ret fun a w hm => inBlock_ret (then_ret (then_ret (inBlock_ret (then_ret (then_ret (T_return (fr' := [(4, dI y2)]) [4] (by kernel_rfl) [.keep [4]] (by kernel_rfl) (by kernel_rfl) (by kernel_rfl) (by show _ = _; kernel_rfl) (by exact trivial) a w hm))))))
      · have h := cond_ff hc h
        refine T_skip fun a w hm => inBlock_norm (then_norm (((?_ : T Try.prog e 33 _ _ _) a w hm)))
        refine T_region_end [] [2, 3, 10, 11] [] [(2, bx_Plate a0), (3, bx_Plate a1), (10, .agg (cS_arr2_SPlate (S_arr2_SPlate.mk a0 a1))), (11, dI (IntKind.i64.wrap (v1 + (1 : Int))))] [] 2 (by kernel_rfl) (trivial) fun a w hm => then_norm (⟨IntKind.i64.wrap (v1 + (1 : Int)), h, hm.co (cs := [.keep [2, 3, 10, 11]]) (by show _ = _; kernel_rfl)⟩)
    · have h := cond_ff hc h
      obtain hs := Option.some.inj h; subst hs
      refine T_exit fun a w hm => then_exit (then_exit (inBlock_exit (then_norm (⟨_, rfl, hm.co (cs := [.keep [2, 3]]) (by show _ = _; kernel_rfl)⟩))))
  · skip
    refine fun a w hm => then_norm (((?_ : T Try.prog e 33 _ _ _) a w hm))
    refine T_seqk ?_
    refine T_region [] [32] [] [(32, dB (bif (a0.f0 != a1.f0) then true else (a0.f1 != a1.f1)))] [(6, ((((a0.f0 != a1.f0) == false) && true) = true → True)), (0, ((((a0.f0 != a1.f0) == false) && true) = true → True)), (0, ((((a0.f0 != a1.f0) == false) && true) = true → True)), (0, ((((a0.f0 != a1.f0) == false) && true) = true → True)), (0, ((((a0.f0 != a1.f0) == false) && true) = true → True))] 1 (by kernel_rfl) (⟨(fun hg => trivial), (fun hg => trivial), (fun hg => trivial), (fun hg => trivial), (fun hg => trivial)⟩) ?_
    refine T_cond (bif (a0.f0 != a1.f0) then true else (a0.f1 != a1.f1)) (by kernel_rfl) (fun hc => ?_) (fun hc => ?_)
    · have h := cond_tt hc h
      refine T_region [] [4] [] [(4, dI (19 : Int))] [] 1 (by kernel_rfl) (trivial) ?_
      obtain hs := Option.some.inj h; subst hs
      refine T_ret fun a w hm => then_ret (T_return (fr' := [(4, dI (19 : Int))]) [4] (by kernel_rfl) [.keep [4]] (by kernel_rfl) (by kernel_rfl) (by kernel_rfl) (by show _ = _; kernel_rfl) (by exact trivial) a w hm)
    · have h := cond_ff hc h
      refine T_skip fun a w hm => then_norm (((?_ : T Try.prog e 33 _ _ _) a w hm))
      refine T_region [] [4] [] [(4, dI (0 : Int))] [] 1 (by kernel_rfl) (trivial) ?_
      obtain hs := Option.some.inj h; subst hs
      refine T_ret fun a w hm => T_return (fr' := [(4, dI (0 : Int))]) [4] (by kernel_rfl) [.keep [4]] (by kernel_rfl) (by kernel_rfl) (by kernel_rfl) (by show _ = _; kernel_rfl) (by exact trivial) a w hm

theorem raster_Grid_uint8_Crop_c1_ok {F : Nat} {a0 : Int} {a1 : Int} {c2 : Int} {c3 : Int} {c4 : List UInt8} {c5 : Int} {c6 : Int} {r : Int × Int × Int × (List UInt8) × Int × Int} (h : raster_Grid_uint8_Crop_c1 F a0 a1 c2 c3 c4 c5 c6 = some r) : ACall Try.prog 61 [.d (.v (.int .i64 a0)), .d (.v (.int .i64 a1)), .bp 1000000 0, .bp 1000001 0, .bp 1000002 0] [.box [.d (.v (.int .i64 c2)), .d (.v (.int .i64 c3)), .d (.sl 1 (c4.map cU))], .box [.d (.v (.int .i64 c5))], .box [.d (.v (.int .i64 c6))]] (.d (.v (.int .u8 r.1))) [.box [.d (.v (.int .i64 r.2.1)), .d (.v (.int .i64 r.2.2.1)), .d (.sl 1 (r.2.2.2.1.map cU))], .box [.d (.v (.int .i64 r.2.2.2.2.1))], .box [.d (.v (.int .i64 r.2.2.2.2.2))]] := by
  rw [raster_Grid_uint8_Crop_c1] at h
  refine ACall.intro (N := 22) Try.func61 rfl rfl rfl rfl rfl fun e => ?_
  refine T_region [] [0, 1, 2, 3, 4, 1000000, 1000001, 1000002] [] [(0, dI a0), (1, dI a1), (2, .bp 1000000 0), (3, .bp 1000001 0), (4, .bp 1000002 0), (1000000, .box [dI c2, dI c3, .d (.sl 1 (c4.map cU))]), (1000001, .box [dI c5]), (1000002, .box [dI c6])] [] 1 (by kernel_rfl) (trivial) ?_
  obtain ⟨z1, hz1, h⟩ := lett_ok h
  obtain ⟨hp1, h⟩ := chk_ok h
  refine T_region [(11, { rw := some (dI z1) }), (12, { cs := cU (c4.getD z1.toNat 0) })] [7, 1000000, 1000001, 1000002] [] [(7, .d (.v (.int .u8 ((c4.getD z1.toNat 0).toNat : Int)))), (1000000, .box [dI c2, dI c3, .d (.sl 1 (c4.map cU))]), (1000001, .box [dI c5]), (1000002, .box [dI c6])] [(11, (True) ∧ dI (IntKind.i64.wrap ((IntKind.i64.wrap ((IntKind.i64.wrap ((IntKind.i64.wrap (c5 + a1)) * c2)) + c6)) + a0)) = dI z1), (0, 0 ≤ z1 ∧ (c4.map cU)[z1.toNat]? = some (cU (c4.getD z1.toNat 0)))] 2 (by kernel_rfl) (⟨⟨trivial, (by subst hz1; rfl)⟩, idx_ok (d := 0) cU hp1⟩) ?_
  obtain hs := Option.some.inj h; subst hs
  refine T_ret fun a w hm => T_return (fr' := [(7, .d (.v (.int .u8 ((c4.getD z1.toNat 0).toNat : Int)))), (1000000, .box [dI c2, dI c3, .d (.sl 1 (c4.map cU))]), (1000001, .box [dI c5]), (1000002, .box [dI c6])]) [7] (by kernel_rfl) [.keep [7, 1000000, 1000001, 1000002]] (by kernel_rfl) (by kernel_rfl) (by kernel_rfl) (by show _ = _; kernel_rfl) (by exact ⟨⟨by kernel_rfl, by kernel_rfl⟩, ⟨⟨by kernel_rfl, by kernel_rfl⟩, ⟨⟨by kernel_rfl, by kernel_rfl⟩, trivial⟩⟩⟩) a w hm

theorem raster_build_uint8_ok {F : Nat} {a0 : Int} {a1 : Int} {c2 : Int} {c3 : Int} {c4 : List UInt8} {c5 : Int} {c6 : Int} {r : S_Plate × Int × Int × (List UInt8) × Int × Int} (h : raster_build_uint8 F a0 a1 c2 c3 c4 c5 c6 = some r) : ACall Try.prog 53 [.d (.v (.int .i64 a0)), .d (.v (.int .i64 a1)), .clo 61 [.bp 1000000 0, .bp 1000001 0, .bp 1000002 0]] [.box [.d (.v (.int .i64 c2)), .d (.v (.int .i64 c3)), .d (.sl 1 (c4.map cU))], .box [.d (.v (.int .i64 c5))], .box [.d (.v (.int .i64 c6))]] (.agg (cS_Plate r.1)) [.box [.d (.v (.int .i64 r.2.1)), .d (.v (.int .i64 r.2.2.1)), .d (.sl 1 (r.2.2.2.1.map cU))], .box [.d (.v (.int .i64 r.2.2.2.2.1))], .box [.d (.v (.int .i64 r.2.2.2.2.2))]] := by
  rw [raster_build_uint8] at h
  refine ACall.intro (N := 37) Try.func53 rfl rfl rfl rfl rfl fun e => ?_
  refine T_region [] [0, 1, 2, 6, 1000000, 1000001, 1000002] [] [(0, dI a0), (1, dI a1), (2, .clo 61 [.bp 1000000 0, .bp 1000001 0, .bp 1000002 0]), (6, .box [dI 0, dI 0, oW0 []]), (1000000, .box [dI c2, dI c3, .d (.sl 1 (c4.map cU))]), (1000001, .box [dI c5]), (1000002, .box [dI c6])] [] 1 (by kernel_rfl) (trivial) ?_
  obtain ⟨hp1, h⟩ := chk_ok h
  refine T_region [(5, { es := some ((List.replicate (0 : Int).toNat 0).map cU) })] [0, 1, 2, 6, 7, 15, 1000000, 1000001, 1000002] [.claimc 7 2, .keep [0, 1, 2, 6, 7, 1000000, 1000001, 1000002]] [(0, dI a0), (1, dI a1), (2, .clo 61 [.bp 1000000 0, .bp 1000001 0, .bp 1000002 0]), (6, .box [dI 0, dI 0, oW0 []]), (7, .box [dI a0, dI a1, .own 5 1 ((List.replicate (0 : Int).toNat 0).map cU)]), (1000000, .box [dI c2, dI c3, .d (.sl 1 (c4.map cU))]), (1000001, .box [dI c5]), (1000002, .box [dI c6])] [(5, (0 ≤ (0 : Int) ∧ (0 : Int) ≤ (IntKind.i64.wrap (a0 * a1)) ∧ (IntKind.i64.wrap (a0 * a1)) ≤ 9223372036854775807 ∧ ((1 : Nat) : Int) * (IntKind.i64.wrap (a0 * a1)) ≤ 281474976710656) ∧ List.replicate (0 : Int).toNat (cU 0) = ((List.replicate (0 : Int).toNat 0).map cU))] 3 (by kernel_rfl) (⟨hp1, repl_ok cU rfl⟩) ?_
  refine T_seqk ?_
  refine T_region [] [0, 2, 6, 7, 17, 18, 1000000, 1000001, 1000002] [] [(0, dI a0), (2, .clo 61 [.bp 1000000 0, .bp 1000001 0, .bp 1000002 0]), (6, .box [dI 0, dI 0, oW0 []]), (7, .box [dI a0, dI a1, .own 5 1 ((List.replicate (0 : Int).toNat 0).map cU)]), (17, dI a1), (18, dI (0 : Int)), (1000000, .box [dI c2, dI c3, .d (.sl 1 (c4.map cU))]), (1000001, .box [dI c5]), (1000002, .box [dI c6])] [] 2 (by kernel_rfl) (trivial) ?_
  refine T_joinct h (fun (p : (List UInt8) × Int × Int × (List UInt8) × Int × Int) => [(6, .box [dI 0, dI 0, oW0 []]), (7, .box [dI a0, dI a1, oW0 p.1]), (1000000, .box [dI p.2.1, dI p.2.2.1, .d (.sl 1 (p.2.2.2.1.map cU))]), (1000001, .box [dI p.2.2.2.2.1]), (1000002, .box [dI p.2.2.2.2.2])]) (fun s h => ?_) (fun s h => ?_)
  · refine T_co [.keep [0, 2, 6, 7, 17, 18, 1000000, 1000001, 1000002]] ((fun (p : (List UInt8) × Int × Int × Int × (List UInt8) × Int × Int) => [(0, dI a0), (2, .clo 61 [.bp 1000000 0, .bp 1000001 0, .bp 1000002 0]), (6, .box [dI 0, dI 0, oW0 []]), (7, .box [dI a0, dI a1, oW0 p.1]), (17, dI a1), (18, dI p.2.1), (1000000, .box [dI p.2.2.1, dI p.2.2.2.1, .d (.sl 1 (p.2.2.2.2.1.map cU))]), (1000001, .box [dI p.2.2.2.2.2.1]), (1000002, .box [dI p.2.2.2.2.2.2])]) ((List.replicate (0 : Int).toNat 0), (0 : Int), c2, c3, c4, c5, c6)) (by show _ = _; kernel_rfl) ?_
    refine T_block ?_
    refine T_loopF (ι := (List UInt8) × Int × Int × Int × (List UInt8) × Int × Int) (fun (p : (List UInt8) × Int × Int × Int × (List UInt8) × Int × Int) => [(0, dI a0), (2, .clo 61 [.bp 1000000 0, .bp 1000001 0, .bp 1000002 0]), (6, .box [dI 0, dI 0, oW0 []]), (7, .box [dI a0, dI a1, oW0 p.1]), (17, dI a1), (18, dI p.2.1), (1000000, .box [dI p.2.2.1, dI p.2.2.2.1, .d (.sl 1 (p.2.2.2.2.1.map cU))]), (1000001, .box [dI p.2.2.2.2.2.1]), (1000002, .box [dI p.2.2.2.2.2.2])]) (fun n p => raster_build_uint8_L0 F a0 a1 n p.1 p.2.1 p.2.2.1 p.2.2.2.1 p.2.2.2.2.1 p.2.2.2.2.2.1 p.2.2.2.2.2.2 = some s) (fun i hh => by simp [raster_build_uint8_L0] at hh) (fun n p h => ?_) F ((List.replicate (0 : Int).toNat 0), (0 : Int), c2, c3, c4, c5, c6) h
    obtain ⟨v9, v1, v10, v11, v12, v13, v14⟩ := p
    have h : raster_build_uint8_L0 F a0 a1 (n + 1) v9 v1 v10 v11 v12 v13 v14 = some s := h
    rw [raster_build_uint8_L0] at h
    refine T_region [] [0, 2, 6, 7, 17, 18, 19, 1000000, 1000001, 1000002] [] [(0, dI a0), (2, .clo 61 [.bp 1000000 0, .bp 1000001 0, .bp 1000002 0]), (6, .box [dI 0, dI 0, oW0 []]), (7, .box [dI a0, dI a1, oW0 v9]), (17, dI a1), (18, dI v1), (19, dB (decide (v1 < a1))), (1000000, .box [dI v10, dI v11, .d (.sl 1 (v12.map cU))]), (1000001, .box [dI v13]), (1000002, .box [dI v14])] [] 1 (by kernel_rfl) (trivial) ?_
    refine T_seqk ?_
    refine T_cond (decide (v1 < a1)) (by kernel_rfl) (fun hc => ?_) (fun hc => ?_)
    · have h := cond_tt hc h
      refine T_skip fun a w hm => then_norm (((?_ : T Try.prog e 37 _ _ _) a w hm))
      refine T_seqk ?_
      refine T_block ?_
      refine T_region [] [0, 2, 6, 7, 8, 17, 18, 1000000, 1000001, 1000002] [] [(0, dI a0), (2, .clo 61 [.bp 1000000 0, .bp 1000001 0, .bp 1000002 0]), (6, .box [dI 0, dI 0, oW0 []]), (7, .box [dI a0, dI a1, oW0 v9]), (8, dI v1), (17, dI a1), (18, dI v1), (1000000, .box [dI v10, dI v11, .d (.sl 1 (v12.map cU))]), (1000001, .box [dI v13]), (1000002, .box [dI v14])] [] 2 (by kernel_rfl) (trivial) ?_
      refine T_region [] [0, 2, 6, 7, 8, 17, 18, 21, 22, 1000000, 1000001, 1000002] [] [(0, dI a0), (2, .clo 61 [.bp 1000000 0, .bp 1000001 0, .bp 1000002 0]), (6, .box [dI 0, dI 0, oW0 []]), (7, .box [dI a0, dI a1, oW0 v9]), (8, dI v1), (17, dI a1), (18, dI v1), (21, dI a0), (22, dI (0 : Int)), (1000000, .box [dI v10, dI v11, .d (.sl 1 (v12.map cU))]), (1000001, .box [dI v13]), (1000002, .box [dI v14])] [] 2 (by kernel_rfl) (trivial) ?_
      refine T_joinct h (fun (p : (List UInt8) × Int × Int × (List UInt8) × Int × Int) => [(0, dI a0), (2, .clo 61 [.bp 1000000 0, .bp 1000001 0, .bp 1000002 0]), (6, .box [dI 0, dI 0, oW0 []]), (7, .box [dI a0, dI a1, oW0 p.1]), (17, dI a1), (18, dI v1), (1000000, .box [dI p.2.1, dI p.2.2.1, .d (.sl 1 (p.2.2.2.1.map cU))]), (1000001, .box [dI p.2.2.2.2.1]), (1000002, .box [dI p.2.2.2.2.2])]) (fun s h => ?_) (fun s h => ?_)
      · refine T_co [.keep [0, 2, 6, 7, 8, 17, 18, 21, 22, 1000000, 1000001, 1000002]] ((fun (p : (List UInt8) × Int × Int × Int × (List UInt8) × Int × Int) => [(0, dI a0), (2, .clo 61 [.bp 1000000 0, .bp 1000001 0, .bp 1000002 0]), (6, .box [dI 0, dI 0, oW0 []]), (7, .box [dI a0, dI a1, oW0 p.1]), (8, dI v1), (17, dI a1), (18, dI v1), (21, dI a0), (22, dI p.2.1), (1000000, .box [dI p.2.2.1, dI p.2.2.2.1, .d (.sl 1 (p.2.2.2.2.1.map cU))]), (1000001, .box [dI p.2.2.2.2.2.1]), (1000002, .box [dI p.2.2.2.2.2.2])]) (v9, (0 : Int), v10, v11, v12, v13, v14)) (by show _ = _; kernel_rfl) ?_
        refine T_block ?_
        refine T_loopF (ι := (List UInt8) × Int × Int × Int × (List UInt8) × Int × Int) (fun (p : (List UInt8) × Int × Int × Int × (List UInt8) × Int × Int) => [(0, dI a0), (2, .clo 61 [.bp 1000000 0, .bp 1000001 0, .bp 1000002 0]), (6, .box [dI 0, dI 0, oW0 []]), (7, .box [dI a0, dI a1, oW0 p.1]), (8, dI v1), (17, dI a1), (18, dI v1), (21, dI a0), (22, dI p.2.1), (1000000, .box [dI p.2.2.1, dI p.2.2.2.1, .d (.sl 1 (p.2.2.2.2.1.map cU))]), (1000001, .box [dI p.2.2.2.2.2.1]), (1000002, .box [dI p.2.2.2.2.2.2])]) (fun n p => raster_build_uint8_L2 F a0 v1 n p.1 p.2.1 p.2.2.1 p.2.2.2.1 p.2.2.2.2.1 p.2.2.2.2.2.1 p.2.2.2.2.2.2 = some s) (fun i hh => by simp [raster_build_uint8_L2] at hh) (fun n p h => ?_) F (v9, (0 : Int), v10, v11, v12, v13, v14) h
        obtain ⟨v2, v3, v4, v5, v6, v7, v8⟩ := p
        have h : raster_build_uint8_L2 F a0 v1 (n + 1) v2 v3 v4 v5 v6 v7 v8 = some s := h
        rw [raster_build_uint8_L2] at h
        refine T_region [] [0, 2, 6, 7, 8, 17, 18, 21, 22, 23, 1000000, 1000001, 1000002] [] [(0, dI a0), (2, .clo 61 [.bp 1000000 0, .bp 1000001 0, .bp 1000002 0]), (6, .box [dI 0, dI 0, oW0 []]), (7, .box [dI a0, dI a1, oW0 v2]), (8, dI v1), (17, dI a1), (18, dI v1), (21, dI a0), (22, dI v3), (23, dB (decide (v3 < a0))), (1000000, .box [dI v4, dI v5, .d (.sl 1 (v6.map cU))]), (1000001, .box [dI v7]), (1000002, .box [dI v8])] [] 1 (by kernel_rfl) (trivial) ?_
        refine T_seqk ?_
        refine T_cond (decide (v3 < a0)) (by kernel_rfl) (fun hc => ?_) (fun hc => ?_)
        · have h := cond_tt hc h
          refine T_skip fun a w hm => then_norm (((?_ : T Try.prog e 37 _ _ _) a w hm))
          refine T_seqk ?_
          refine T_block ?_
          refine T_region [] [0, 2, 6, 7, 8, 9, 17, 18, 21, 22, 1000000, 1000001, 1000002] [] [(0, dI a0), (2, .clo 61 [.bp 1000000 0, .bp 1000001 0, .bp 1000002 0]), (6, .box [dI 0, dI 0, oW0 []]), (7, .box [dI a0, dI a1, oW0 v2]), (8, dI v1), (9, dI v3), (17, dI a1), (18, dI v1), (21, dI a0), (22, dI v3), (1000000, .box [dI v4, dI v5, .d (.sl 1 (v6.map cU))]), (1000001, .box [dI v7]), (1000002, .box [dI v8])] [] 2 (by kernel_rfl) (trivial) ?_
          obtain ⟨y1, hy1, h⟩ := call_ok h
          obtain ⟨hp2, h⟩ := chk_ok h
          obtain ⟨hp3, h⟩ := chk_ok h
          refine T_drawX_end mixed 3 (.take 0 (.take 2 (.take 3 (.take 4 (.all (.alt 1 (.all (.alt 5 (.all (.alt 6 (.all (.alt 7 (.take 8 (.all (.alt 9 .done .stop))) .stop)) .stop)) .stop)) (.alt 5 (.all (.alt 1 (.all (.alt 6 (.all (.alt 7 (.take 8 (.all (.alt 9 .done .stop))) .stop)) .stop)) (.alt 6 (.all (.alt 1 (.all (.alt 7 (.take 8 (.all (.alt 9 .done .stop))) .stop)) .stop)) .stop))) .stop))))))) ([0, 1, 0, 0, 0, 28, 32, 98, 255, 511], [0, 1, 0, 0, 0, 28, 32, 66, 0, 384]) 285 [(5, { res := .d (.v (.int .u8 y1.1)), vout := [.box [dI y1.2.1, dI y1.2.2.1, .d (.sl 1 (y1.2.2.2.1.map cU))], .box [dI y1.2.2.2.2.1], .box [dI y1.2.2.2.2.2]], xs := [1000000, 1000001, 1000002] }), (6, { es := some (([(UInt8.ofNat y1.1.toNat)]).map cU) }), (7, { es := some ((v2 ++ ([(UInt8.ofNat y1.1.toNat)])).map cU) })] [0, 2, 6, 7, 8, 17, 18, 21, 22, 1000000, 1000001, 1000002] [] [(0, dI a0), (2, .clo 61 [.bp 1000000 0, .bp 1000001 0, .bp 1000002 0]), (6, .box [dI 0, dI 0, oW0 []]), (7, .box [dI a0, dI a1, .own 5 1 ((v2 ++ ([(UInt8.ofNat y1.1.toNat)])).map cU)]), (8, dI v1), (17, dI a1), (18, dI v1), (21, dI a0), (22, dI v3), (1000000, .box [dI y1.2.1, dI y1.2.2.1, .d (.sl 1 (y1.2.2.2.1.map cU))]), (1000001, .box [dI y1.2.2.2.2.1]), (1000002, .box [dI y1.2.2.2.2.2])] ((fun (o5 : Prop) => fun (o6 : Prop) => fun (o7 : Prop) => [(5, o5), (0, o6), (0, o7), (2, o5), (1, o6), (0, o7), (2, o6), (1, o7)]) (ACall Try.prog 61 [dI v3, dI v1, .bp 1000000 0, .bp 1000001 0, .bp 1000002 0] [.box [dI v4, dI v5, .d (.sl 1 (v6.map cU))], .box [dI v7], .box [dI v8]] (.d (.v (.int .u8 y1.1))) [.box [dI y1.2.1, dI y1.2.2.1, .d (.sl 1 (y1.2.2.2.1.map cU))], .box [dI y1.2.2.2.2.1], .box [dI y1.2.2.2.2.2]]) ([[Dat.v (.int .u8 y1.1)]] = (([(UInt8.ofNat y1.1.toNat)]).map cU)) ((v2.map cU).length + (([(UInt8.ofNat y1.1.toNat)]).map cU).length ≤ 4294967296 ∧ (v2.map cU) ++ (([(UInt8.ofNat y1.1.toNat)]).map cU) = ((v2 ++ ([(UInt8.ofNat y1.1.toNat)])).map cU))) 2 (by kernel_rfl) (by kernel_rfl) (by kernel_rfl) (have p5 := raster_Grid_uint8_Crop_c1_ok hy1; have p6 := (lit_u hp2 (rfl : ([] : List (List Dat)) = ([] : List UInt8).map cU)); have p7 := app_ok cU hp3; ⟨p5, p6, p7, p5, p6, p7, p6, p7⟩) fun a w hm => inBlock_norm (then_norm (((?_ : T Try.prog e 37 _ _ _) a w hm)))
          refine T_region_end [] [0, 2, 6, 7, 8, 17, 18, 21, 22, 1000000, 1000001, 1000002] [] [(0, dI a0), (2, .clo 61 [.bp 1000000 0, .bp 1000001 0, .bp 1000002 0]), (6, .box [dI 0, dI 0, oW0 []]), (7, .box [dI a0, dI a1, .own 5 1 ((v2 ++ ([(UInt8.ofNat y1.1.toNat)])).map cU)]), (8, dI v1), (17, dI a1), (18, dI v1), (21, dI a0), (22, dI (IntKind.i64.wrap (v3 + (1 : Int)))), (1000000, .box [dI y1.2.1, dI y1.2.2.1, .d (.sl 1 (y1.2.2.2.1.map cU))]), (1000001, .box [dI y1.2.2.2.2.1]), (1000002, .box [dI y1.2.2.2.2.2])] [] 2 (by kernel_rfl) (trivial) fun a w hm => then_norm (⟨((v2 ++ ([(UInt8.ofNat y1.1.toNat)])), IntKind.i64.wrap (v3 + (1 : Int)), y1.2.1, y1.2.2.1, y1.2.2.2.1, y1.2.2.2.2.1, y1.2.2.2.2.2), h, hm.co (cs := [.keep [0, 2, 6, 7, 8, 17, 18, 21, 22, 1000000, 1000001, 1000002]]) (by show _ = _; kernel_rfl)⟩)
        · have h := cond_ff hc h
          obtain hs := Option.some.inj h; subst hs
          refine T_exit fun a w hm => then_exit (then_exit (inBlock_exit (then_norm (hm.co (cs := [.keep [0, 2, 6, 7, 17, 18, 1000000, 1000001, 1000002]]) (by show _ = _; kernel_rfl)))))
      · obtain ⟨v15, v16, v17, v18, v19, v20⟩ := s
        try dsimp only at h
        refine fun a w hm => inBlock_norm (then_norm (((?_ : T Try.prog e 37 _ _ _) a w hm)))
        refine T_region_end [] [0, 2, 6, 7, 17, 18, 1000000, 1000001, 1000002] [] [(0, dI a0), (2, .clo 61 [.bp 1000000 0, .bp 1000001 0, .bp 1000002 0]), (6, .box [dI 0, dI 0, oW0 []]), (7, .box [dI a0, dI a1, oW0 v15]), (17, dI a1), (18, dI (IntKind.i64.wrap (v1 + (1 : Int)))), (1000000, .box [dI v16, dI v17, .d (.sl 1 (v18.map cU))]), (1000001, .box [dI v19]), (1000002, .box [dI v20])] [] 2 (by kernel_rfl) (trivial) fun a w hm => then_norm (⟨(v15, IntKind.i64.wrap (v1 + (1 : Int)), v16, v17, v18, v19, v20), h, hm.co (cs := [.keep [0, 2, 6, 7, 17, 18, 1000000, 1000001, 1000002]]) (by show _ = _; kernel_rfl)⟩)
    · have h := cond_ff hc h
      obtain hs := Option.some.inj h; subst hs
      refine T_exit fun a w hm => then_exit (then_exit (inBlock_exit (then_norm (hm.co (cs := [.keep [6, 7, 1000000, 1000001, 1000002]]) (by show _ = _; kernel_rfl)))))
  · obtain ⟨v21, v22, v23, v24, v25, v26⟩ := s
    try dsimp only at h
    refine fun a w hm => then_norm (((?_ : T Try.prog e 37 _ _ _) a w hm))
    refine T_region [(0, { frz := [(7, 3)] })] [6, 1000000, 1000001, 1000002] [] [(6, .box [dI a0, dI a1, .d (.sl 1 (v21.map cU))]), (1000000, .box [dI v22, dI v23, .d (.sl 1 (v24.map cU))]), (1000001, .box [dI v25]), (1000002, .box [dI v26])] [] 2 (by kernel_rfl) (trivial) ?_
    obtain hs := Option.some.inj h; subst hs
    refine T_ret fun a w hm => T_returnC (fr' := [(6, .box [dI a0, dI a1, .d (.sl 1 (v21.map cU))]), (1000000, .box [dI v22, dI v23, .d (.sl 1 (v24.map cU))]), (1000001, .box [dI v25]), (1000002, .box [dI v26])]) (ts := [37]) (N' := 38) (fr2 := [(37, .agg (cS_Plate (S_Plate.mk a0 a1 v21)))] ++ [(6, .box [dI a0, dI a1, .d (.sl 1 (v21.map cU))]), (1000000, .box [dI v22, dI v23, .d (.sl 1 (v24.map cU))]), (1000001, .box [dI v25]), (1000002, .box [dI v26])]) [.keep [6, 1000000, 1000001, 1000002]] (by kernel_rfl) (by kernel_rfl) (by kernel_rfl) (by kernel_rfl) (by show _ = _; kernel_rfl) (by exact ⟨⟨by kernel_rfl, by kernel_rfl⟩, ⟨⟨by kernel_rfl, by kernel_rfl⟩, ⟨⟨by kernel_rfl, by kernel_rfl⟩, trivial⟩⟩⟩) a w hm

theorem raster_Grid_uint8_Crop_ok {F : Nat} {a0 : S_Plate} {a1 : Int} {a2 : Int} {a3 : Int} {a4 : Int} {r : S_Plate × Int} (h : raster_Grid_uint8_Crop F a0 a1 a2 a3 a4 = some r) : ACall Try.prog 42 [.agg (cS_Plate a0), .d (.v (.int .i64 a1)), .d (.v (.int .i64 a2)), .d (.v (.int .i64 a3)), .d (.v (.int .i64 a4))] [] (.tup [.agg (cS_Plate r.1), .d (.v (.int .i64 r.2))]) [] := by
  rw [raster_Grid_uint8_Crop] at h
  refine ACall.intro (N := 66) Try.func42 rfl rfl rfl rfl rfl fun e => ?_
  refine T_region [] [3, 4, 5, 6, 7, 10] [] [(3, dI a3), (4, dI a4), (5, bx_Plate a0), (6, .box [dI a1]), (7, .box [dI a2]), (10, .box [dI 0, dI 0, oW0 []])] [] 5 (by kernel_rfl) (trivial) ?_
  refine T_seqk ?_
  obtain ⟨y1, hy1, h⟩ := call_ok h
  refine T_region [(1, { res := dI y1 })] [3, 4, 5, 6, 7, 10, 12] [] [(3, dI a3), (4, dI a4), (5, bx_Plate a0), (6, .box [dI a1]), (7, .box [dI a2]), (10, .box [dI 0, dI 0, oW0 []]), (12, dI y1)] [(1, ACall Try.prog 41 [.agg (cS_Plate a0)] [] (dI y1) [])] 1 (by kernel_rfl) (raster_Grid_uint8_Check_ok hy1) ?_
  refine T_region [] [3, 4, 5, 6, 7, 10, 12, 16] [] [(3, dI a3), (4, dI a4), (5, bx_Plate a0), (6, .box [dI a1]), (7, .box [dI a2]), (10, .box [dI 0, dI 0, oW0 []]), (12, dI y1), (16, dB (y1 != (0 : Int)))] [] 2 (by kernel_rfl) (trivial) ?_
  refine T_cond (y1 != (0 : Int)) (by kernel_rfl) (fun hc => ?_) (fun hc => ?_)
  · have h := cond_tt hc h
    refine T_region [(0, { take := [0] })] [10, 11] [.nilc 10 2 5 1, .keep [10, 11]] [(10, .box [dI 0, dI 0, oW0 []]), (11, dI y1)] [] 4 (by kernel_rfl) (trivial) ?_
    obtain hs := Option.some.inj h; subst hs
    refine T_ret fun a w hm => then_ret (T_returnC (fr' := [(10, .box [dI 0, dI 0, .fz 1 ([].map cU)]), (11, dI y1)]) (ts := [66, 11]) (N' := 67) (fr2 := [(66, .agg (cS_Plate (S_Plate.mk 0 0 [])))] ++ [(10, .box [dI 0, dI 0, .fz 1 ([].map cU)]), (11, dI y1)]) [.frz (10, 3), .keep [10, 11]] (by kernel_rfl) (by kernel_rfl) (by kernel_rfl) (by kernel_rfl) (by show _ = _; kernel_rfl) (by exact trivial) a w hm)
  · have h := cond_ff hc h
    refine T_skip fun a w hm => then_norm (((?_ : T Try.prog e 66 _ _ _) a w hm))
    refine T_seqk ?_
    obtain ⟨z1, hz1, h⟩ := lett_ok h
    obtain ⟨z2, hz2, h⟩ := lett_ok h
    obtain ⟨z3, hz3, h⟩ := lett_ok h
    refine T_region [(9, { rw := some (dB z1) }), (25, { rw := some (dB z2) }), (41, { rw := some (dB z3) })] [3, 4, 5, 6, 7, 10, 60] [] [(3, dI a3), (4, dI a4), (5, bx_Plate a0), (6, .box [dI a1]), (7, .box [dI a2]), (10, .box [dI 0, dI 0, oW0 []]), (60, dB z3)] [(3, ((((decide (a3 < (1 : Int))) == false) && true) = true → True)), (0, ((((decide (a3 < (1 : Int))) == false) && true) = true → True)), (2, ((((bif (decide (a3 < (1 : Int))) then true else (decide (a4 < (1 : Int)))) == false) && true) = true → True)), (0, ((((bif (decide (a3 < (1 : Int))) then true else (decide (a4 < (1 : Int)))) == false) && true) = true → True)), (0, (True) ∧ dB (bif (bif (decide (a3 < (1 : Int))) then true else (decide (a4 < (1 : Int)))) then true else (decide (a1 < (0 : Int)))) = dB z1), (1, (((z1 == false) && true) = true → True)), (0, (((z1 == false) && true) = true → True)), (2, ((((bif z1 then true else (decide (a2 < (0 : Int)))) == false) && true) = true → True)), (0, ((((bif z1 then true else (decide (a2 < (0 : Int)))) == false) && true) = true → True)), (0, ((((bif z1 then true else (decide (a2 < (0 : Int)))) == false) && true) = true → True)), (0, ((((bif z1 then true else (decide (a2 < (0 : Int)))) == false) && true) = true → True)), (2, ((((bif (bif z1 then true else (decide (a2 < (0 : Int)))) then true else (decide (a3 > a0.f0))) == false) && true) = true → True)), (0, ((((bif (bif z1 then true else (decide (a2 < (0 : Int)))) then true else (decide (a3 > a0.f0))) == false) && true) = true → True)), (0, ((((bif (bif z1 then true else (decide (a2 < (0 : Int)))) then true else (decide (a3 > a0.f0))) == false) && true) = true → True)), (0, ((((bif (bif z1 then true else (decide (a2 < (0 : Int)))) then true else (decide (a3 > a0.f0))) == false) && true) = true → True)), (0, (True) ∧ dB (bif (bif (bif z1 then true else (decide (a2 < (0 : Int)))) then true else (decide (a3 > a0.f0))) then true else (decide (a4 > a0.f1))) = dB z2), (1, (((z2 == false) && true) = true → True)), (0, (((z2 == false) && true) = true → True)), (0, (((z2 == false) && true) = true → True)), (0, (((z2 == false) && true) = true → True)), (0, (((z2 == false) && true) = true → True)), (0, (((z2 == false) && true) = true → True)), (2, ((((bif z2 then true else (decide (a1 > (IntKind.i64.wrap (a0.f0 - a3))))) == false) && true) = true → True)), (0, ((((bif z2 then true else (decide (a1 > (IntKind.i64.wrap (a0.f0 - a3))))) == false) && true) = true → True)), (0, ((((bif z2 then true else (decide (a1 > (IntKind.i64.wrap (a0.f0 - a3))))) == false) && true) = true → True)), (0, ((((bif z2 then true else (decide (a1 > (IntKind.i64.wrap (a0.f0 - a3))))) == false) && true) = true → True)), (0, ((((bif z2 then true else (decide (a1 > (IntKind.i64.wrap (a0.f0 - a3))))) == false) && true) = true → True)), (0, ((((bif z2 then true else (decide (a1 > (IntKind.i64.wrap (a0.f0 - a3))))) == false) && true) = true → True)), (0, (True) ∧ dB (bif (bif z2 then true else (decide (a1 > (IntKind.i64.wrap (a0.f0 - a3))))) then true else (decide (a2 > (IntKind.i64.wrap (a0.f1 - a4))))) = dB z3)] 0 (by kernel_rfl) (⟨(fun hg => trivial), (fun hg => trivial), (fun hg => trivial), (fun hg => trivial), ⟨trivial, (by subst hz1; rfl)⟩, (fun hg => trivial), (fun hg => trivial), (fun hg => trivial), (fun hg => trivial), (fun hg => trivial), (fun hg => trivial), (fun hg => trivial), (fun hg => trivial), (fun hg => trivial), (fun hg => trivial), ⟨trivial, (by subst hz2; rfl)⟩, (fun hg => trivial), (fun hg => trivial), (fun hg => trivial), (fun hg => trivial), (fun hg => trivial), (fun hg => trivial), (fun hg => trivial), (fun hg => trivial), (fun hg => trivial), (fun hg => trivial), (fun hg => trivial), (fun hg => trivial), ⟨trivial, (by subst hz3; rfl)⟩⟩) ?_
    refine T_cond z3 (by kernel_rfl) (fun hc => ?_) (fun hc => ?_)
    · have h := cond_tt hc h
      refine T_region [(0, { take := [0] })] [10, 11] [.nilc 10 2 5 1, .keep [10, 11]] [(10, .box [dI 0, dI 0, oW0 []]), (11, dI (3 : Int))] [] 3 (by kernel_rfl) (trivial) ?_
      obtain hs := Option.some.inj h; subst hs
      refine T_ret fun a w hm => then_ret (T_returnC (fr' := [(10, .box [dI 0, dI 0, .fz 1 ([].map cU)]), (11, dI (3 : Int))]) (ts := [66, 11]) (N' := 67) (fr2 := [(66, .agg (cS_Plate (S_Plate.mk 0 0 [])))] ++ [(10, .box [dI 0, dI 0, .fz 1 ([].map cU)]), (11, dI (3 : Int))]) [.frz (10, 3), .keep [10, 11]] (by kernel_rfl) (by kernel_rfl) (by kernel_rfl) (by kernel_rfl) (by show _ = _; kernel_rfl) (by exact trivial) a w hm)
    · have h := cond_ff hc h
      refine T_skip fun a w hm => then_norm (((?_ : T Try.prog e 66 _ _ _) a w hm))
      obtain ⟨y2, hy2, h⟩ := call_ok h
      refine T_region [(3, { res := .agg (cS_Plate y2.1), vout := [.box [dI y2.2.1, dI y2.2.2.1, .d (.sl 1 (y2.2.2.2.1.map cU))], .box [dI y2.2.2.2.2.1], .box [dI y2.2.2.2.2.2]], xs := [5, 7, 6] })] [10, 11] [] [(10, bx_Plate y2.1), (11, dI (0 : Int))] [(3, ACall Try.prog 53 [dI a3, dI a4, .clo 61 [.bp 1000000 0, .bp 1000001 0, .bp 1000002 0]] [bx_Plate a0, .box [dI a2], .box [dI a1]] (.agg (cS_Plate y2.1)) [.box [dI y2.2.1, dI y2.2.2.1, .d (.sl 1 (y2.2.2.2.1.map cU))], .box [dI y2.2.2.2.2.1], .box [dI y2.2.2.2.2.2]])] 2 (by kernel_rfl) (raster_build_uint8_ok hy2) ?_
      obtain hs := Option.some.inj h; subst hs
      refine T_ret fun a w hm => T_returnC (fr' := [(10, bx_Plate y2.1), (11, dI (0 : Int))]) (ts := [66, 11]) (N' := 67) (fr2 := [(66, .agg (cS_Plate y2.1))] ++ [(10, bx_Plate y2.1), (11, dI (0 : Int))]) [.keep [10, 11]] (by kernel_rfl) (by kernel_rfl) (by kernel_rfl) (by kernel_rfl) (by show _ = _; kernel_rfl) (by exact trivial) a w hm

theorem raster_Grid_uint8_Turn_c1_ok {F : Nat} {a0 : Int} {a1 : Int} {c2 : Int} {c3 : Int} {c4 : List UInt8} {c5 : Int} {c6 : Int} {r : Int × Int × Int × (List UInt8) × Int × Int} (h : raster_Grid_uint8_Turn_c1 F a0 a1 c2 c3 c4 c5 c6 = some r) : ACall Try.prog 58 [.d (.v (.int .i64 a0)), .d (.v (.int .i64 a1)), .bp 1000000 0, .bp 1000001 0, .bp 1000002 0] [.box [.d (.v (.int .i64 c2)), .d (.v (.int .i64 c3)), .d (.sl 1 (c4.map cU))], .box [.d (.v (.int .i64 c5))], .box [.d (.v (.int .i64 c6))]] (.d (.v (.int .u8 r.1))) [.box [.d (.v (.int .i64 r.2.1)), .d (.v (.int .i64 r.2.2.1)), .d (.sl 1 (r.2.2.2.1.map cU))], .box [.d (.v (.int .i64 r.2.2.2.2.1))], .box [.d (.v (.int .i64 r.2.2.2.2.2))]] := by
  rw [raster_Grid_uint8_Turn_c1] at h
  refine ACall.intro (N := 20) Try.func58 rfl rfl rfl rfl rfl fun e => ?_
  refine T_region [] [0, 1, 2, 3, 4, 1000000, 1000001, 1000002] [] [(0, dI a0), (1, dI a1), (2, .bp 1000000 0), (3, .bp 1000001 0), (4, .bp 1000002 0), (1000000, .box [dI c2, dI c3, .d (.sl 1 (c4.map cU))]), (1000001, .box [dI c5]), (1000002, .box [dI c6])] [] 1 (by kernel_rfl) (trivial) ?_
  obtain ⟨z1, hz1, h⟩ := lett_ok h
  obtain ⟨hp1, h⟩ := chk_ok h
  refine T_region [(9, { rw := some (dI z1) }), (10, { cs := cU (c4.getD z1.toNat 0) })] [7, 1000000, 1000001, 1000002] [] [(7, .d (.v (.int .u8 ((c4.getD z1.toNat 0).toNat : Int)))), (1000000, .box [dI c2, dI c3, .d (.sl 1 (c4.map cU))]), (1000001, .box [dI c5]), (1000002, .box [dI c6])] [(9, (True) ∧ dI (IntKind.i64.wrap ((IntKind.i64.wrap ((IntKind.i64.wrap ((IntKind.i64.wrap (c5 - (1 : Int))) - a0)) * c6)) + a1)) = dI z1), (0, 0 ≤ z1 ∧ (c4.map cU)[z1.toNat]? = some (cU (c4.getD z1.toNat 0)))] 2 (by kernel_rfl) (⟨⟨trivial, (by subst hz1; rfl)⟩, idx_ok (d := 0) cU hp1⟩) ?_
  obtain hs := Option.some.inj h; subst hs
  refine T_ret fun a w hm => T_return (fr' := [(7, .d (.v (.int .u8 ((c4.getD z1.toNat 0).toNat : Int)))), (1000000, .box [dI c2, dI c3, .d (.sl 1 (c4.map cU))]), (1000001, .box [dI c5]), (1000002, .box [dI c6])]) [7] (by kernel_rfl) [.keep [7, 1000000, 1000001, 1000002]] (by kernel_rfl) (by kernel_rfl) (by kernel_rfl) (by show _ = _; kernel_rfl) (by exact ⟨⟨by kernel_rfl, by kernel_rfl⟩, ⟨⟨by kernel_rfl, by kernel_rfl⟩, ⟨⟨by kernel_rfl, by kernel_rfl⟩, trivial⟩⟩⟩) a w hm

theorem raster_build_uint8_v1_ok {F : Nat} {a0 : Int} {a1 : Int} {c2 : Int} {c3 : Int} {c4 : List UInt8} {c5 : Int} {c6 : Int} {r : S_Plate × Int × Int × (List UInt8) × Int × Int} (h : raster_build_uint8_v1 F a0 a1 c2 c3 c4 c5 c6 = some r) : ACall Try.prog 53 [.d (.v (.int .i64 a0)), .d (.v (.int .i64 a1)), .clo 58 [.bp 1000000 0, .bp 1000001 0, .bp 1000002 0]] [.box [.d (.v (.int .i64 c2)), .d (.v (.int .i64 c3)), .d (.sl 1 (c4.map cU))], .box [.d (.v (.int .i64 c5))], .box [.d (.v (.int .i64 c6))]] (.agg (cS_Plate r.1)) [.box [.d (.v (.int .i64 r.2.1)), .d (.v (.int .i64 r.2.2.1)), .d (.sl 1 (r.2.2.2.1.map cU))], .box [.d (.v (.int .i64 r.2.2.2.2.1))], .box [.d (.v (.int .i64 r.2.2.2.2.2))]] := by
  rw [raster_build_uint8_v1] at h
  refine ACall.intro (N := 37) Try.func53 rfl rfl rfl rfl rfl fun e => ?_
  refine T_region [] [0, 1, 2, 6, 1000000, 1000001, 1000002] [] [(0, dI a0), (1, dI a1), (2, .clo 58 [.bp 1000000 0, .bp 1000001 0, .bp 1000002 0]), (6, .box [dI 0, dI 0, oW0 []]), (1000000, .box [dI c2, dI c3, .d (.sl 1 (c4.map cU))]), (1000001, .box [dI c5]), (1000002, .box [dI c6])] [] 1 (by kernel_rfl) (trivial) ?_
  obtain ⟨hp1, h⟩ := chk_ok h
  refine T_region [(5, { es := some ((List.replicate (0 : Int).toNat 0).map cU) })] [0, 1, 2, 6, 7, 15, 1000000, 1000001, 1000002] [.claimc 7 2, .keep [0, 1, 2, 6, 7, 1000000, 1000001, 1000002]] [(0, dI a0), (1, dI a1), (2, .clo 58 [.bp 1000000 0, .bp 1000001 0, .bp 1000002 0]), (6, .box [dI 0, dI 0, oW0 []]), (7, .box [dI a0, dI a1, .own 5 1 ((List.replicate (0 : Int).toNat 0).map cU)]), (1000000, .box [dI c2, dI c3, .d (.sl 1 (c4.map cU))]), (1000001, .box [dI c5]), (1000002, .box [dI c6])] [(5, (0 ≤ (0 : Int) ∧ (0 : Int) ≤ (IntKind.i64.wrap (a0 * a1)) ∧ (IntKind.i64.wrap (a0 * a1)) ≤ 9223372036854775807 ∧ ((1 : Nat) : Int) * (IntKind.i64.wrap (a0 * a1)) ≤ 281474976710656) ∧ List.replicate (0 : Int).toNat (cU 0) = ((List.replicate (0 : Int).toNat 0).map cU))] 3 (by kernel_rfl) (⟨hp1, repl_ok cU rfl⟩) ?_
  refine T_seqk ?_
  refine T_region [] [0, 2, 6, 7, 17, 18, 1000000, 1000001, 1000002] [] [(0, dI a0), (2, .clo 58 [.bp 1000000 0, .bp 1000001 0, .bp 1000002 0]), (6, .box [dI 0, dI 0, oW0 []]), (7, .box [dI a0, dI a1, .own 5 1 ((List.replicate (0 : Int).toNat 0).map cU)]), (17, dI a1), (18, dI (0 : Int)), (1000000, .box [dI c2, dI c3, .d (.sl 1 (c4.map cU))]), (1000001, .box [dI c5]), (1000002, .box [dI c6])] [] 2 (by kernel_rfl) (trivial) ?_
  refine T_joinct h (fun (p : (List UInt8) × Int × Int × (List UInt8) × Int × Int) => [(6, .box [dI 0, dI 0, oW0 []]), (7, .box [dI a0, dI a1, oW0 p.1]), (1000000, .box [dI p.2.1, dI p.2.2.1, .d (.sl 1 (p.2.2.2.1.map cU))]), (1000001, .box [dI p.2.2.2.2.1]), (1000002, .box [dI p.2.2.2.2.2])]) (fun s h => ?_) (fun s h => ?_)
  · refine T_co [.keep [0, 2, 6, 7, 17, 18, 1000000, 1000001, 1000002]] ((fun (p : (List UInt8) × Int × Int × Int × (List UInt8) × Int × Int) => [(0, dI a0), (2, .clo 58 [.bp 1000000 0, .bp 1000001 0, .bp 1000002 0]), (6, .box [dI 0, dI 0, oW0 []]), (7, .box [dI a0, dI a1, oW0 p.1]), (17, dI a1), (18, dI p.2.1), (1000000, .box [dI p.2.2.1, dI p.2.2.2.1, .d (.sl 1 (p.2.2.2.2.1.map cU))]), (1000001, .box [dI p.2.2.2.2.2.1]), (1000002, .box [dI p.2.2.2.2.2.2])]) ((List.replicate (0 : Int).toNat 0), (0 : Int), c2, c3, c4, c5, c6)) (by show _ = _; kernel_rfl) ?_
    refine T_block ?_
    refine T_loopF (ι := (List UInt8) × Int × Int × Int × (List UInt8) × Int × Int) (fun (p : (List UInt8) × Int × Int × Int × (List UInt8) × Int × Int) => [(0, dI a0), (2, .clo 58 [.bp 1000000 0, .bp 1000001 0, .bp 1000002 0]), (6, .box [dI 0, dI 0, oW0 []]), (7, .box [dI a0, dI a1, oW0 p.1]), (17, dI a1), (18, dI p.2.1), (1000000, .box [dI p.2.2.1, dI p.2.2.2.1, .d (.sl 1 (p.2.2.2.2.1.map cU))]), (1000001, .box [dI p.2.2.2.2.2.1]), (1000002, .box [dI p.2.2.2.2.2.2])]) (fun n p => raster_build_uint8_v1_L0 F a0 a1 n p.1 p.2.1 p.2.2.1 p.2.2.2.1 p.2.2.2.2.1 p.2.2.2.2.2.1 p.2.2.2.2.2.2 = some s) (fun i hh => by simp [raster_build_uint8_v1_L0] at hh) (fun n p h => ?_) F ((List.replicate (0 : Int).toNat 0), (0 : Int), c2, c3, c4, c5, c6) h
    obtain ⟨v9, v1, v10, v11, v12, v13, v14⟩ := p
    have h : raster_build_uint8_v1_L0 F a0 a1 (n + 1) v9 v1 v10 v11 v12 v13 v14 = some s := h
    rw [raster_build_uint8_v1_L0] at h
    refine T_region [] [0, 2, 6, 7, 17, 18, 19, 1000000, 1000001, 1000002] [] [(0, dI a0), (2, .clo 58 [.bp 1000000 0, .bp 1000001 0, .bp 1000002 0]), (6, .box [dI 0, dI 0, oW0 []]), (7, .box [dI a0, dI a1, oW0 v9]), (17, dI a1), (18, dI v1), (19, dB (decide (v1 < a1))), (1000000, .box [dI v10, dI v11, .d (.sl 1 (v12.map cU))]), (1000001, .box [dI v13]), (1000002, .box [dI v14])] [] 1 (by kernel_rfl) (trivial) ?_
    refine T_seqk ?_
    refine T_cond (decide (v1 < a1)) (by kernel_rfl) (fun hc => ?_) (fun hc => ?_)
    · have h := cond_tt hc h
      refine T_skip fun a w hm => then_norm (((?_ : T Try.prog e 37 _ _ _) a w hm))
      refine T_seqk ?_
      refine T_block ?_
      refine T_region [] [0, 2, 6, 7, 8, 17, 18, 1000000, 1000001, 1000002] [] [(0, dI a0), (2, .clo 58 [.bp 1000000 0, .bp 1000001 0, .bp 1000002 0]), (6, .box [dI 0, dI 0, oW0 []]), (7, .box [dI a0, dI a1, oW0 v9]), (8, dI v1), (17, dI a1), (18, dI v1), (1000000, .box [dI v10, dI v11, .d (.sl 1 (v12.map cU))]), (1000001, .box [dI v13]), (1000002, .box [dI v14])] [] 2 (by kernel_rfl) (trivial) ?_
      refine T_region [] [0, 2, 6, 7, 8, 17, 18, 21, 22, 1000000, 1000001, 1000002] [] [(0, dI a0), (2, .clo 58 [.bp 1000000 0, .bp 1000001 0, .bp 1000002 0]), (6, .box [dI 0, dI 0, oW0 []]), (7, .box [dI a0, dI a1, oW0 v9]), (8, dI v1), (17, dI a1), (18, dI v1), (21, dI a0), (22, dI (0 : Int)), (1000000, .box [dI v10, dI v11, .d (.sl 1 (v12.map cU))]), (1000001, .box [dI v13]), (1000002, .box [dI v14])] [] 2 (by kernel_rfl) (trivial) ?_
      refine T_joinct h (fun (p : (List UInt8) × Int × Int × (List UInt8) × Int × Int) => [(0, dI a0), (2, .clo 58 [.bp 1000000 0, .bp 1000001 0, .bp 1000002 0]), (6, .box [dI 0, dI 0, oW0 []]), (7, .box [dI a0, dI a1, oW0 p.1]), (17, dI a1), (18, dI v1), (1000000, .box [dI p.2.1, dI p.2.2.1, .d (.sl 1 (p.2.2.2.1.map cU))]), (1000001, .box [dI p.2.2.2.2.1]), (1000002, .box [dI p.2.2.2.2.2])]) (fun s h => ?_) (fun s h => ?_)
      · refine T_co [.keep [0, 2, 6, 7, 8, 17, 18, 21, 22, 1000000, 1000001, 1000002]] ((fun (p : (List UInt8) × Int × Int × Int × (List UInt8) × Int × Int) => [(0, dI a0), (2, .clo 58 [.bp 1000000 0, .bp 1000001 0, .bp 1000002 0]), (6, .box [dI 0, dI 0, oW0 []]), (7, .box [dI a0, dI a1, oW0 p.1]), (8, dI v1), (17, dI a1), (18, dI v1), (21, dI a0), (22, dI p.2.1), (1000000, .box [dI p.2.2.1, dI p.2.2.2.1, .d (.sl 1 (p.2.2.2.2.1.map cU))]), (1000001, .box [dI p.2.2.2.2.2.1]), (1000002, .box [dI p.2.2.2.2.2.2])]) (v9, (0 : Int), v10, v11, v12, v13, v14)) (by show _ = _; kernel_rfl) ?_
        refine T_block ?_
        refine T_loopF (ι := (List UInt8) × Int × Int × Int × (List UInt8) × Int × Int) (fun (p : (List UInt8) × Int × Int × Int × (List UInt8) × Int × Int) => [(0, dI a0), (2, .clo 58 [.bp 1000000 0, .bp 1000001 0, .bp 1000002 0]), (6, .box [dI 0, dI 0, oW0 []]), (7, .box [dI a0, dI a1, oW0 p.1]), (8, dI v1), (17, dI a1), (18, dI v1), (21, dI a0), (22, dI p.2.1), (1000000, .box [dI p.2.2.1, dI p.2.2.2.1, .d (.sl 1 (p.2.2.2.2.1.map cU))]), (1000001, .box [dI p.2.2.2.2.2.1]), (1000002, .box [dI p.2.2.2.2.2.2])]) (fun n p => raster_build_uint8_v1_L2 F a0 v1 n p.1 p.2.1 p.2.2.1 p.2.2.2.1 p.2.2.2.2.1 p.2.2.2.2.2.1 p.2.2.2.2.2.2 = some s) (fun i hh => by simp [raster_build_uint8_v1_L2] at hh) (fun n p h => ?_) F (v9, (0 : Int), v10, v11, v12, v13, v14) h
        obtain ⟨v2, v3, v4, v5, v6, v7, v8⟩ := p
        have h : raster_build_uint8_v1_L2 F a0 v1 (n + 1) v2 v3 v4 v5 v6 v7 v8 = some s := h
        rw [raster_build_uint8_v1_L2] at h
        refine T_region [] [0, 2, 6, 7, 8, 17, 18, 21, 22, 23, 1000000, 1000001, 1000002] [] [(0, dI a0), (2, .clo 58 [.bp 1000000 0, .bp 1000001 0, .bp 1000002 0]), (6, .box [dI 0, dI 0, oW0 []]), (7, .box [dI a0, dI a1, oW0 v2]), (8, dI v1), (17, dI a1), (18, dI v1), (21, dI a0), (22, dI v3), (23, dB (decide (v3 < a0))), (1000000, .box [dI v4, dI v5, .d (.sl 1 (v6.map cU))]), (1000001, .box [dI v7]), (1000002, .box [dI v8])] [] 1 (by kernel_rfl) (trivial) ?_
        refine T_seqk ?_
        refine T_cond (decide (v3 < a0)) (by kernel_rfl) (fun hc => ?_) (fun hc => ?_)
        · have h := cond_tt hc h
          refine T_skip fun a w hm => then_norm (((?_ : T Try.prog e 37 _ _ _) a w hm))
          refine T_seqk ?_
          refine T_block ?_
          refine T_region [] [0, 2, 6, 7, 8, 9, 17, 18, 21, 22, 1000000, 1000001, 1000002] [] [(0, dI a0), (2, .clo 58 [.bp 1000000 0, .bp 1000001 0, .bp 1000002 0]), (6, .box [dI 0, dI 0, oW0 []]), (7, .box [dI a0, dI a1, oW0 v2]), (8, dI v1), (9, dI v3), (17, dI a1), (18, dI v1), (21, dI a0), (22, dI v3), (1000000, .box [dI v4, dI v5, .d (.sl 1 (v6.map cU))]), (1000001, .box [dI v7]), (1000002, .box [dI v8])] [] 2 (by kernel_rfl) (trivial) ?_
          obtain ⟨y1, hy1, h⟩ := call_ok h
          obtain ⟨hp2, h⟩ := chk_ok h
          obtain ⟨hp3, h⟩ := chk_ok h
          refine T_drawX_end mixed 3 (.take 0 (.take 2 (.take 3 (.take 4 (.all (.alt 1 (.all (.alt 5 (.all (.alt 6 (.all (.alt 7 (.take 8 (.all (.alt 9 .done .stop))) .stop)) .stop)) .stop)) (.alt 5 (.all (.alt 1 (.all (.alt 6 (.all (.alt 7 (.take 8 (.all (.alt 9 .done .stop))) .stop)) .stop)) (.alt 6 (.all (.alt 1 (.all (.alt 7 (.take 8 (.all (.alt 9 .done .stop))) .stop)) .stop)) .stop))) .stop))))))) ([0, 1, 0, 0, 0, 28, 32, 98, 255, 511], [0, 1, 0, 0, 0, 28, 32, 66, 0, 384]) 285 [(5, { res := .d (.v (.int .u8 y1.1)), vout := [.box [dI y1.2.1, dI y1.2.2.1, .d (.sl 1 (y1.2.2.2.1.map cU))], .box [dI y1.2.2.2.2.1], .box [dI y1.2.2.2.2.2]], xs := [1000000, 1000001, 1000002] }), (6, { es := some (([(UInt8.ofNat y1.1.toNat)]).map cU) }), (7, { es := some ((v2 ++ ([(UInt8.ofNat y1.1.toNat)])).map cU) })] [0, 2, 6, 7, 8, 17, 18, 21, 22, 1000000, 1000001, 1000002] [] [(0, dI a0), (2, .clo 58 [.bp 1000000 0, .bp 1000001 0, .bp 1000002 0]), (6, .box [dI 0, dI 0, oW0 []]), (7, .box [dI a0, dI a1, .own 5 1 ((v2 ++ ([(UInt8.ofNat y1.1.toNat)])).map cU)]), (8, dI v1), (17, dI a1), (18, dI v1), (21, dI a0), (22, dI v3), (1000000, .box [dI y1.2.1, dI y1.2.2.1, .d (.sl 1 (y1.2.2.2.1.map cU))]), (1000001, .box [dI y1.2.2.2.2.1]), (1000002, .box [dI y1.2.2.2.2.2])] ((fun (o5 : Prop) => fun (o6 : Prop) => fun (o7 : Prop) => [(5, o5), (0, o6), (0, o7), (2, o5), (1, o6), (0, o7), (2, o6), (1, o7)]) (ACall Try.prog 58 [dI v3, dI v1, .bp 1000000 0, .bp 1000001 0, .bp 1000002 0] [.box [dI v4, dI v5, .d (.sl 1 (v6.map cU))], .box [dI v7], .box [dI v8]] (.d (.v (.int .u8 y1.1))) [.box [dI y1.2.1, dI y1.2.2.1, .d (.sl 1 (y1.2.2.2.1.map cU))], .box [dI y1.2.2.2.2.1], .box [dI y1.2.2.2.2.2]]) ([[Dat.v (.int .u8 y1.1)]] = (([(UInt8.ofNat y1.1.toNat)]).map cU)) ((v2.map cU).length + (([(UInt8.ofNat y1.1.toNat)]).map cU).length ≤ 4294967296 ∧ (v2.map cU) ++ (([(UInt8.ofNat y1.1.toNat)]).map cU) = ((v2 ++ ([(UInt8.ofNat y1.1.toNat)])).map cU))) 2 (by kernel_rfl) (by kernel_rfl) (by kernel_rfl) (have p5 := raster_Grid_uint8_Turn_c1_ok hy1; have p6 := (lit_u hp2 (rfl : ([] : List (List Dat)) = ([] : List UInt8).map cU)); have p7 := app_ok cU hp3; ⟨p5, p6, p7, p5, p6, p7, p6, p7⟩) fun a w hm => inBlock_norm (then_norm (((?_ : T Try.prog e 37 _ _ _) a w hm)))
          refine T_region_end [] [0, 2, 6, 7, 8, 17, 18, 21, 22, 1000000, 1000001, 1000002] [] [(0, dI a0), (2, .clo 58 [.bp 1000000 0, .bp 1000001 0, .bp 1000002 0]), (6, .box [dI 0, dI 0, oW0 []]), (7, .box [dI a0, dI a1, .own 5 1 ((v2 ++ ([(UInt8.ofNat y1.1.toNat)])).map cU)]), (8, dI v1), (17, dI a1), (18, dI v1), (21, dI a0), (22, dI (IntKind.i64.wrap (v3 + (1 : Int)))), (1000000, .box [dI y1.2.1, dI y1.2.2.1, .d (.sl 1 (y1.2.2.2.1.map cU))]), (1000001, .box [dI y1.2.2.2.2.1]), (1000002, .box [dI y1.2.2.2.2.2])] [] 2 (by kernel_rfl) (trivial) fun a w hm => then_norm (⟨((v2 ++ ([(UInt8.ofNat y1.1.toNat)])), IntKind.i64.wrap (v3 + (1 : Int)), y1.2.1, y1.2.2.1, y1.2.2.2.1, y1.2.2.2.2.1, y1.2.2.2.2.2), h, hm.co (cs := [.keep [0, 2, 6, 7, 8, 17, 18, 21, 22, 1000000, 1000001, 1000002]]) (by show _ = _; kernel_rfl)⟩)
        · have h := cond_ff hc h
          obtain hs := Option.some.inj h; subst hs
          refine T_exit fun a w hm => then_exit (then_exit (inBlock_exit (then_norm (hm.co (cs := [.keep [0, 2, 6, 7, 17, 18, 1000000, 1000001, 1000002]]) (by show _ = _; kernel_rfl)))))
      · obtain ⟨v15, v16, v17, v18, v19, v20⟩ := s
        try dsimp only at h
        refine fun a w hm => inBlock_norm (then_norm (((?_ : T Try.prog e 37 _ _ _) a w hm)))
        refine T_region_end [] [0, 2, 6, 7, 17, 18, 1000000, 1000001, 1000002] [] [(0, dI a0), (2, .clo 58 [.bp 1000000 0, .bp 1000001 0, .bp 1000002 0]), (6, .box [dI 0, dI 0, oW0 []]), (7, .box [dI a0, dI a1, oW0 v15]), (17, dI a1), (18, dI (IntKind.i64.wrap (v1 + (1 : Int)))), (1000000, .box [dI v16, dI v17, .d (.sl 1 (v18.map cU))]), (1000001, .box [dI v19]), (1000002, .box [dI v20])] [] 2 (by kernel_rfl) (trivial) fun a w hm => then_norm (⟨(v15, IntKind.i64.wrap (v1 + (1 : Int)), v16, v17, v18, v19, v20), h, hm.co (cs := [.keep [0, 2, 6, 7, 17, 18, 1000000, 1000001, 1000002]]) (by show _ = _; kernel_rfl)⟩)
    · have h := cond_ff hc h
      obtain hs := Option.some.inj h; subst hs
      refine T_exit fun a w hm => then_exit (then_exit (inBlock_exit (then_norm (hm.co (cs := [.keep [6, 7, 1000000, 1000001, 1000002]]) (by show _ = _; kernel_rfl)))))
  · obtain ⟨v21, v22, v23, v24, v25, v26⟩ := s
    try dsimp only at h
    refine fun a w hm => then_norm (((?_ : T Try.prog e 37 _ _ _) a w hm))
    refine T_region [(0, { frz := [(7, 3)] })] [6, 1000000, 1000001, 1000002] [] [(6, .box [dI a0, dI a1, .d (.sl 1 (v21.map cU))]), (1000000, .box [dI v22, dI v23, .d (.sl 1 (v24.map cU))]), (1000001, .box [dI v25]), (1000002, .box [dI v26])] [] 2 (by kernel_rfl) (trivial) ?_
    obtain hs := Option.some.inj h; subst hs
    refine T_ret fun a w hm => T_returnC (fr' := [(6, .box [dI a0, dI a1, .d (.sl 1 (v21.map cU))]), (1000000, .box [dI v22, dI v23, .d (.sl 1 (v24.map cU))]), (1000001, .box [dI v25]), (1000002, .box [dI v26])]) (ts := [37]) (N' := 38) (fr2 := [(37, .agg (cS_Plate (S_Plate.mk a0 a1 v21)))] ++ [(6, .box [dI a0, dI a1, .d (.sl 1 (v21.map cU))]), (1000000, .box [dI v22, dI v23, .d (.sl 1 (v24.map cU))]), (1000001, .box [dI v25]), (1000002, .box [dI v26])]) [.keep [6, 1000000, 1000001, 1000002]] (by kernel_rfl) (by kernel_rfl) (by kernel_rfl) (by kernel_rfl) (by show _ = _; kernel_rfl) (by exact ⟨⟨by kernel_rfl, by kernel_rfl⟩, ⟨⟨by kernel_rfl, by kernel_rfl⟩, ⟨⟨by kernel_rfl, by kernel_rfl⟩, trivial⟩⟩⟩) a w hm

theorem raster_Grid_uint8_Turn_c2_ok {F : Nat} {a0 : Int} {a1 : Int} {c2 : Int} {c3 : Int} {c4 : List UInt8} {c5 : Int} {c6 : Int} {r : Int × Int × Int × (List UInt8) × Int × Int} (h : raster_Grid_uint8_Turn_c2 F a0 a1 c2 c3 c4 c5 c6 = some r) : ACall Try.prog 59 [.d (.v (.int .i64 a0)), .d (.v (.int .i64 a1)), .bp 1000000 0, .bp 1000001 0, .bp 1000002 0] [.box [.d (.v (.int .i64 c2)), .d (.v (.int .i64 c3)), .d (.sl 1 (c4.map cU))], .box [.d (.v (.int .i64 c5))], .box [.d (.v (.int .i64 c6))]] (.d (.v (.int .u8 r.1))) [.box [.d (.v (.int .i64 r.2.1)), .d (.v (.int .i64 r.2.2.1)), .d (.sl 1 (r.2.2.2.1.map cU))], .box [.d (.v (.int .i64 r.2.2.2.2.1))], .box [.d (.v (.int .i64 r.2.2.2.2.2))]] := by
  rw [raster_Grid_uint8_Turn_c2] at h
  refine ACall.intro (N := 23) Try.func59 rfl rfl rfl rfl rfl fun e => ?_
  refine T_region [] [0, 1, 2, 3, 4, 1000000, 1000001, 1000002] [] [(0, dI a0), (1, dI a1), (2, .bp 1000000 0), (3, .bp 1000001 0), (4, .bp 1000002 0), (1000000, .box [dI c2, dI c3, .d (.sl 1 (c4.map cU))]), (1000001, .box [dI c5]), (1000002, .box [dI c6])] [] 1 (by kernel_rfl) (trivial) ?_
  obtain ⟨z1, hz1, h⟩ := lett_ok h
  obtain ⟨hp1, h⟩ := chk_ok h
  refine T_region [(9, { rw := some (dI z1) }), (13, { cs := cU (c4.getD (IntKind.i64.wrap ((IntKind.i64.wrap (z1 - (1 : Int))) - a0)).toNat 0) })] [7, 1000000, 1000001, 1000002] [] [(7, .d (.v (.int .u8 ((c4.getD (IntKind.i64.wrap ((IntKind.i64.wrap (z1 - (1 : Int))) - a0)).toNat 0).toNat : Int)))), (1000000, .box [dI c2, dI c3, .d (.sl 1 (c4.map cU))]), (1000001, .box [dI c5]), (1000002, .box [dI c6])] [(9, (True) ∧ dI (IntKind.i64.wrap ((IntKind.i64.wrap ((IntKind.i64.wrap ((IntKind.i64.wrap (c5 - (1 : Int))) - a1)) * c6)) + c6)) = dI z1), (3, 0 ≤ (IntKind.i64.wrap ((IntKind.i64.wrap (z1 - (1 : Int))) - a0)) ∧ (c4.map cU)[(IntKind.i64.wrap ((IntKind.i64.wrap (z1 - (1 : Int))) - a0)).toNat]? = some (cU (c4.getD (IntKind.i64.wrap ((IntKind.i64.wrap (z1 - (1 : Int))) - a0)).toNat 0)))] 2 (by kernel_rfl) (⟨⟨trivial, (by subst hz1; rfl)⟩, idx_ok (d := 0) cU hp1⟩) ?_
  obtain hs := Option.some.inj h; subst hs
  refine T_ret fun a w hm => T_return (fr' := [(7, .d (.v (.int .u8 ((c4.getD (IntKind.i64.wrap ((IntKind.i64.wrap (z1 - (1 : Int))) - a0)).toNat 0).toNat : Int)))), (1000000, .box [dI c2, dI c3, .d (.sl 1 (c4.map cU))]), (1000001, .box [dI c5]), (1000002, .box [dI c6])]) [7] (by kernel_rfl) [.keep [7, 1000000, 1000001, 1000002]] (by kernel_rfl) (by kernel_rfl) (by kernel_rfl) (by show _ = _; kernel_rfl) (by exact ⟨⟨by kernel_rfl, by kernel_rfl⟩, ⟨⟨by kernel_rfl, by kernel_rfl⟩, ⟨⟨by kernel_rfl, by kernel_rfl⟩, trivial⟩⟩⟩) a w hm

theorem raster_build_uint8_v2_ok {F : Nat} {a0 : Int} {a1 : Int} {c2 : Int} {c3 : Int} {c4 : List UInt8} {c5 : Int} {c6 : Int} {r : S_Plate × Int × Int × (List UInt8) × Int × Int} (h : raster_build_uint8_v2 F a0 a1 c2 c3 c4 c5 c6 = some r) : ACall Try.prog 53 [.d (.v (.int .i64 a0)), .d (.v (.int .i64 a1)), .clo 59 [.bp 1000000 0, .bp 1000001 0, .bp 1000002 0]] [.box [.d (.v (.int .i64 c2)), .d (.v (.int .i64 c3)), .d (.sl 1 (c4.map cU))], .box [.d (.v (.int .i64 c5))], .box [.d (.v (.int .i64 c6))]] (.agg (cS_Plate r.1)) [.box [.d (.v (.int .i64 r.2.1)), .d (.v (.int .i64 r.2.2.1)), .d (.sl 1 (r.2.2.2.1.map cU))], .box [.d (.v (.int .i64 r.2.2.2.2.1))], .box [.d (.v (.int .i64 r.2.2.2.2.2))]] := by
  rw [raster_build_uint8_v2] at h
  refine ACall.intro (N := 37) Try.func53 rfl rfl rfl rfl rfl fun e => ?_
  refine T_region [] [0, 1, 2, 6, 1000000, 1000001, 1000002] [] [(0, dI a0), (1, dI a1), (2, .clo 59 [.bp 1000000 0, .bp 1000001 0, .bp 1000002 0]), (6, .box [dI 0, dI 0, oW0 []]), (1000000, .box [dI c2, dI c3, .d (.sl 1 (c4.map cU))]), (1000001, .box [dI c5]), (1000002, .box [dI c6])] [] 1 (by kernel_rfl) (trivial) ?_
  obtain ⟨hp1, h⟩ := chk_ok h
  refine T_region [(5, { es := some ((List.replicate (0 : Int).toNat 0).map cU) })] [0, 1, 2, 6, 7, 15, 1000000, 1000001, 1000002] [.claimc 7 2, .keep [0, 1, 2, 6, 7, 1000000, 1000001, 1000002]] [(0, dI a0), (1, dI a1), (2, .clo 59 [.bp 1000000 0, .bp 1000001 0, .bp 1000002 0]), (6, .box [dI 0, dI 0, oW0 []]), (7, .box [dI a0, dI a1, .own 5 1 ((List.replicate (0 : Int).toNat 0).map cU)]), (1000000, .box [dI c2, dI c3, .d (.sl 1 (c4.map cU))]), (1000001, .box [dI c5]), (1000002, .box [dI c6])] [(5, (0 ≤ (0 : Int) ∧ (0 : Int) ≤ (IntKind.i64.wrap (a0 * a1)) ∧ (IntKind.i64.wrap (a0 * a1)) ≤ 9223372036854775807 ∧ ((1 : Nat) : Int) * (IntKind.i64.wrap (a0 * a1)) ≤ 281474976710656) ∧ List.replicate (0 : Int).toNat (cU 0) = ((List.replicate (0 : Int).toNat 0).map cU))] 3 (by kernel_rfl) (⟨hp1, repl_ok cU rfl⟩) ?_
  refine T_seqk ?_
  refine T_region [] [0, 2, 6, 7, 17, 18, 1000000, 1000001, 1000002] [] [(0, dI a0), (2, .clo 59 [.bp 1000000 0, .bp 1000001 0, .bp 1000002 0]), (6, .box [dI 0, dI 0, oW0 []]), (7, .box [dI a0, dI a1, .own 5 1 ((List.replicate (0 : Int).toNat 0).map cU)]), (17, dI a1), (18, dI (0 : Int)), (1000000, .box [dI c2, dI c3, .d (.sl 1 (c4.map cU))]), (1000001, .box [dI c5]), (1000002, .box [dI c6])] [] 2 (by kernel_rfl) (trivial) ?_
  refine T_joinct h (fun (p : (List UInt8) × Int × Int × (List UInt8) × Int × Int) => [(6, .box [dI 0, dI 0, oW0 []]), (7, .box [dI a0, dI a1, oW0 p.1]), (1000000, .box [dI p.2.1, dI p.2.2.1, .d (.sl 1 (p.2.2.2.1.map cU))]), (1000001, .box [dI p.2.2.2.2.1]), (1000002, .box [dI p.2.2.2.2.2])]) (fun s h => ?_) (fun s h => ?_)
  · refine T_co [.keep [0, 2, 6, 7, 17, 18, 1000000, 1000001, 1000002]] ((fun (p : (List UInt8) × Int × Int × Int × (List UInt8) × Int × Int) => [(0, dI a0), (2, .clo 59 [.bp 1000000 0, .bp 1000001 0, .bp 1000002 0]), (6, .box [dI 0, dI 0, oW0 []]), (7, .box [dI a0, dI a1, oW0 p.1]), (17, dI a1), (18, dI p.2.1), (1000000, .box [dI p.2.2.1, dI p.2.2.2.1, .d (.sl 1 (p.2.2.2.2.1.map cU))]), (1000001, .box [dI p.2.2.2.2.2.1]), (1000002, .box [dI p.2.2.2.2.2.2])]) ((List.replicate (0 : Int).toNat 0), (0 : Int), c2, c3, c4, c5, c6)) (by show _ = _; kernel_rfl) ?_
    refine T_block ?_
    refine T_loopF (ι := (List UInt8) × Int × Int × Int × (List UInt8) × Int × Int) (fun (p : (List UInt8) × Int × Int × Int × (List UInt8) × Int × Int) => [(0, dI a0), (2, .clo 59 [.bp 1000000 0, .bp 1000001 0, .bp 1000002 0]), (6, .box [dI 0, dI 0, oW0 []]), (7, .box [dI a0, dI a1, oW0 p.1]), (17, dI a1), (18, dI p.2.1), (1000000, .box [dI p.2.2.1, dI p.2.2.2.1, .d (.sl 1 (p.2.2.2.2.1.map cU))]), (1000001, .box [dI p.2.2.2.2.2.1]), (1000002, .box [dI p.2.2.2.2.2.2])]) (fun n p => raster_build_uint8_v2_L0 F a0 a1 n p.1 p.2.1 p.2.2.1 p.2.2.2.1 p.2.2.2.2.1 p.2.2.2.2.2.1 p.2.2.2.2.2.2 = some s) (fun i hh => by simp [raster_build_uint8_v2_L0] at hh) (fun n p h => ?_) F ((List.replicate (0 : Int).toNat 0), (0 : Int), c2, c3, c4, c5, c6) h
    obtain ⟨v9, v1, v10, v11, v12, v13, v14⟩ := p
    have h : raster_build_uint8_v2_L0 F a0 a1 (n + 1) v9 v1 v10 v11 v12 v13 v14 = some s := h
    rw [raster_build_uint8_v2_L0] at h
    refine T_region [] [0, 2, 6, 7, 17, 18, 19, 1000000, 1000001, 1000002] [] [(0, dI a0), (2, .clo 59 [.bp 1000000 0, .bp 1000001 0, .bp 1000002 0]), (6, .box [dI 0, dI 0, oW0 []]), (7, .box [dI a0, dI a1, oW0 v9]), (17, dI a1), (18, dI v1), (19, dB (decide (v1 < a1))), (1000000, .box [dI v10, dI v11, .d (.sl 1 (v12.map cU))]), (1000001, .box [dI v13]), (1000002, .box [dI v14])] [] 1 (by kernel_rfl) (trivial) ?_
    refine T_seqk ?_
    refine T_cond (decide (v1 < a1)) (by kernel_rfl) (fun hc => ?_) (fun hc => ?_)
    · have h := cond_tt hc h
      refine T_skip fun a w hm => then_norm (((?_ : T Try.prog e 37 _ _ _) a w hm))
      refine T_seqk ?_
      refine T_block ?_
      refine T_region [] [0, 2, 6, 7, 8, 17, 18, 1000000, 1000001, 1000002] [] [(0, dI a0), (2, .clo 59 [.bp 1000000 0, .bp 1000001 0, .bp 1000002 0]), (6, .box [dI 0, dI 0, oW0 []]), (7, .box [dI a0, dI a1, oW0 v9]), (8, dI v1), (17, dI a1), (18, dI v1), (1000000, .box [dI v10, dI v11, .d (.sl 1 (v12.map cU))]), (1000001, .box [dI v13]), (1000002, .box [dI v14])] [] 2 (by kernel_rfl) (trivial) ?_
      refine T_region [] [0, 2, 6, 7, 8, 17, 18, 21, 22, 1000000, 1000001, 1000002] [] [(0, dI a0), (2, .clo 59 [.bp 1000000 0, .bp 1000001 0, .bp 1000002 0]), (6, .box [dI 0, dI 0, oW0 []]), (7, .box [dI a0, dI a1, oW0 v9]), (8, dI v1), (17, dI a1), (18, dI v1), (21, dI a0), (22, dI (0 : Int)), (1000000, .box [dI v10, dI v11, .d (.sl 1 (v12.map cU))]), (1000001, .box [dI v13]), (1000002, .box [dI v14])] [] 2 (by kernel_rfl) (trivial) ?_
      refine T_joinct h (fun (p : (List UInt8) × Int × Int × (List UInt8) × Int × Int) => [(0, dI a0), (2, .clo 59 [.bp 1000000 0, .bp 1000001 0, .bp 1000002 0]), (6, .box [dI 0, dI 0, oW0 []]), (7, .box [dI a0, dI a1, oW0 p.1]), (17, dI a1), (18, dI v1), (1000000, .box [dI p.2.1, dI p.2.2.1, .d (.sl 1 (p.2.2.2.1.map cU))]), (1000001, .box [dI p.2.2.2.2.1]), (1000002, .box [dI p.2.2.2.2.2])]) (fun s h => ?_) (fun s h => ?_)
      · refine T_co [.keep [0, 2, 6, 7, 8, 17, 18, 21, 22, 1000000, 1000001, 1000002]] ((fun (p : (List UInt8) × Int × Int × Int × (List UInt8) × Int × Int) => [(0, dI a0), (2, .clo 59 [.bp 1000000 0, .bp 1000001 0, .bp 1000002 0]), (6, .box [dI 0, dI 0, oW0 []]), (7, .box [dI a0, dI a1, oW0 p.1]), (8, dI v1), (17, dI a1), (18, dI v1), (21, dI a0), (22, dI p.2.1), (1000000, .box [dI p.2.2.1, dI p.2.2.2.1, .d (.sl 1 (p.2.2.2.2.1.map cU))]), (1000001, .box [dI p.2.2.2.2.2.1]), (1000002, .box [dI p.2.2.2.2.2.2])]) (v9, (0 : Int), v10, v11, v12, v13, v14)) (by show _ = _; kernel_rfl) ?_
        refine T_block ?_
        refine T_loopF (ι := (List UInt8) × Int × Int × Int × (List UInt8) × Int × Int) (fun (p : (List UInt8) × Int × Int × Int × (List UInt8) × Int × Int) => [(0, dI a0), (2, .clo 59 [.bp 1000000 0, .bp 1000001 0, .bp 1000002 0]), (6, .box [dI 0, dI 0, oW0 []]), (7, .box [dI a0, dI a1, oW0 p.1]), (8, dI v1), (17, dI a1), (18, dI v1), (21, dI a0), (22, dI p.2.1), (1000000, .box [dI p.2.2.1, dI p.2.2.2.1, .d (.sl 1 (p.2.2.2.2.1.map cU))]), (1000001, .box [dI p.2.2.2.2.2.1]), (1000002, .box [dI p.2.2.2.2.2.2])]) (fun n p => raster_build_uint8_v2_L2 F a0 v1 n p.1 p.2.1 p.2.2.1 p.2.2.2.1 p.2.2.2.2.1 p.2.2.2.2.2.1 p.2.2.2.2.2.2 = some s) (fun i hh => by simp [raster_build_uint8_v2_L2] at hh) (fun n p h => ?_) F (v9, (0 : Int), v10, v11, v12, v13, v14) h
        obtain ⟨v2, v3, v4, v5, v6, v7, v8⟩ := p
        have h : raster_build_uint8_v2_L2 F a0 v1 (n + 1) v2 v3 v4 v5 v6 v7 v8 = some s := h
        rw [raster_build_uint8_v2_L2] at h
        refine T_region [] [0, 2, 6, 7, 8, 17, 18, 21, 22, 23, 1000000, 1000001, 1000002] [] [(0, dI a0), (2, .clo 59 [.bp 1000000 0, .bp 1000001 0, .bp 1000002 0]), (6, .box [dI 0, dI 0, oW0 []]), (7, .box [dI a0, dI a1, oW0 v2]), (8, dI v1), (17, dI a1), (18, dI v1), (21, dI a0), (22, dI v3), (23, dB (decide (v3 < a0))), (1000000, .box [dI v4, dI v5, .d (.sl 1 (v6.map cU))]), (1000001, .box [dI v7]), (1000002, .box [dI v8])] [] 1 (by kernel_rfl) (trivial) ?_
        refine T_seqk ?_
        refine T_cond (decide (v3 < a0)) (by kernel_rfl) (fun hc => ?_) (fun hc => ?_)
        · have h := cond_tt hc h
          refine T_skip fun a w hm => then_norm (((?_ : T Try.prog e 37 _ _ _) a w hm))
          refine T_seqk ?_
          refine T_block ?_
          refine T_region [] [0, 2, 6, 7, 8, 9, 17, 18, 21, 22, 1000000, 1000001, 1000002] [] [(0, dI a0), (2, .clo 59 [.bp 1000000 0, .bp 1000001 0, .bp 1000002 0]), (6, .box [dI 0, dI 0, oW0 []]), (7, .box [dI a0, dI a1, oW0 v2]), (8, dI v1), (9, dI v3), (17, dI a1), (18, dI v1), (21, dI a0), (22, dI v3), (1000000, .box [dI v4, dI v5, .d (.sl 1 (v6.map cU))]), (1000001, .box [dI v7]), (1000002, .box [dI v8])] [] 2 (by kernel_rfl) (trivial) ?_
          obtain ⟨y1, hy1, h⟩ := call_ok h
          obtain ⟨hp2, h⟩ := chk_ok h
          obtain ⟨hp3, h⟩ := chk_ok h
          refine T_drawX_end mixed 3 (.take 0 (.take 2 (.take 3 (.take 4 (.all (.alt 1 (.all (.alt 5 (.all (.alt 6 (.all (.alt 7 (.take 8 (.all (.alt 9 .done .stop))) .stop)) .stop)) .stop)) (.alt 5 (.all (.alt 1 (.all (.alt 6 (.all (.alt 7 (.take 8 (.all (.alt 9 .done .stop))) .stop)) .stop)) (.alt 6 (.all (.alt 1 (.all (.alt 7 (.take 8 (.all (.alt 9 .done .stop))) .stop)) .stop)) .stop))) .stop))))))) ([0, 1, 0, 0, 0, 28, 32, 98, 255, 511], [0, 1, 0, 0, 0, 28, 32, 66, 0, 384]) 285 [(5, { res := .d (.v (.int .u8 y1.1)), vout := [.box [dI y1.2.1, dI y1.2.2.1, .d (.sl 1 (y1.2.2.2.1.map cU))], .box [dI y1.2.2.2.2.1], .box [dI y1.2.2.2.2.2]], xs := [1000000, 1000001, 1000002] }), (6, { es := some (([(UInt8.ofNat y1.1.toNat)]).map cU) }), (7, { es := some ((v2 ++ ([(UInt8.ofNat y1.1.toNat)])).map cU) })] [0, 2, 6, 7, 8, 17, 18, 21, 22, 1000000, 1000001, 1000002] [] [(0, dI a0), (2, .clo 59 [.bp 1000000 0, .bp 1000001 0, .bp 1000002 0]), (6, .box [dI 0, dI 0, oW0 []]), (7, .box [dI a0, dI a1, .own 5 1 ((v2 ++ ([(UInt8.ofNat y1.1.toNat)])).map cU)]), (8, dI v1), (17, dI a1), (18, dI v1), (21, dI a0), (22, dI v3), (1000000, .box [dI y1.2.1, dI y1.2.2.1, .d (.sl 1 (y1.2.2.2.1.map cU))]), (1000001, .box [dI y1.2.2.2.2.1]), (1000002, .box [dI y1.2.2.2.2.2])] ((fun (o5 : Prop) => fun (o6 : Prop) => fun (o7 : Prop) => [(5, o5), (0, o6), (0, o7), (2, o5), (1, o6), (0, o7), (2, o6), (1, o7)]) (ACall Try.prog 59 [dI v3, dI v1, .bp 1000000 0, .bp 1000001 0, .bp 1000002 0] [.box [dI v4, dI v5, .d (.sl 1 (v6.map cU))], .box [dI v7], .box [dI v8]] (.d (.v (.int .u8 y1.1))) [.box [dI y1.2.1, dI y1.2.2.1, .d (.sl 1 (y1.2.2.2.1.map cU))], .box [dI y1.2.2.2.2.1], .box [dI y1.2.2.2.2.2]]) ([[Dat.v (.int .u8 y1.1)]] = (([(UInt8.ofNat y1.1.toNat)]).map cU)) ((v2.map cU).length + (([(UInt8.ofNat y1.1.toNat)]).map cU).length ≤ 4294967296 ∧ (v2.map cU) ++ (([(UInt8.ofNat y1.1.toNat)]).map cU) = ((v2 ++ ([(UInt8.ofNat y1.1.toNat)])).map cU))) 2 (by kernel_rfl) (by kernel_rfl) (by kernel_rfl) (have p5 := raster_Grid_uint8_Turn_c2_ok hy1; have p6 := (lit_u hp2 (rfl : ([] : List (List Dat)) = ([] : List UInt8).map cU)); have p7 := app_ok cU hp3; ⟨p5, p6, p7, p5, p6, p7, p6, p7⟩) fun a w hm => inBlock_norm (then_norm (((?_ : T Try.prog e 37 _ _ _) a w hm)))
          refine T_region_end [] [0, 2, 6, 7, 8, 17, 18, 21, 22, 1000000, 1000001, 1000002] [] [(0, dI a0), (2, .clo 59 [.bp 1000000 0, .bp 1000001 0, .bp 1000002 0]), (6, .box [dI 0, dI 0, oW0 []]), (7, .box [dI a0, dI a1, .own 5 1 ((v2 ++ ([(UInt8.ofNat y1.1.toNat)])).map cU)]), (8, dI v1), (17, dI a1), (18, dI v1), (21, dI a0), (22, dI (IntKind.i64.wrap (v3 + (1 : Int)))), (1000000, .box [dI y1.2.1, dI y1.2.2.1, .d (.sl 1 (y1.2.2.2.1.map cU))]), (1000001, .box [dI y1.2.2.2.2.1]), (1000002, .box [dI y1.2.2.2.2.2])] [] 2 (by kernel_rfl) (trivial) fun a w hm => then_norm (⟨((v2 ++ ([(UInt8.ofNat y1.1.toNat)])), IntKind.i64.wrap (v3 + (1 : Int)), y1.2.1, y1.2.2.1, y1.2.2.2.1, y1.2.2.2.2.1, y1.2.2.2.2.2), h, hm.co (cs := [.keep [0, 2, 6, 7, 8, 17, 18, 21, 22, 1000000, 1000001, 1000002]]) (by show _ = _; kernel_rfl)⟩)
        · have h := cond_ff hc h
          obtain hs := Option.some.inj h; subst hs
          refine T_exit fun a w hm => then_exit (then_exit (inBlock_exit (then_norm (hm.co (cs := [.keep [0, 2, 6, 7, 17, 18, 1000000, 1000001, 1000002]]) (by show _ = _; kernel_rfl)))))
      · obtain ⟨v15, v16, v17, v18, v19, v20⟩ := s
        try dsimp only at h
        refine fun a w hm => inBlock_norm (then_norm (((?_ : T Try.prog e 37 _ _ _) a w hm)))
        refine T_region_end [] [0, 2, 6, 7, 17, 18, 1000000, 1000001, 1000002] [] [(0, dI a0), (2, .clo 59 [.bp 1000000 0, .bp 1000001 0, .bp 1000002 0]), (6, .box [dI 0, dI 0, oW0 []]), (7, .box [dI a0, dI a1, oW0 v15]), (17, dI a1), (18, dI (IntKind.i64.wrap (v1 + (1 : Int)))), (1000000, .box [dI v16, dI v17, .d (.sl 1 (v18.map cU))]), (1000001, .box [dI v19]), (1000002, .box [dI v20])] [] 2 (by kernel_rfl) (trivial) fun a w hm => then_norm (⟨(v15, IntKind.i64.wrap (v1 + (1 : Int)), v16, v17, v18, v19, v20), h, hm.co (cs := [.keep [0, 2, 6, 7, 17, 18, 1000000, 1000001, 1000002]]) (by show _ = _; kernel_rfl)⟩)
    · have h := cond_ff hc h
      obtain hs := Option.some.inj h; subst hs
      refine T_exit fun a w hm => then_exit (then_exit (inBlock_exit (then_norm (hm.co (cs := [.keep [6, 7, 1000000, 1000001, 1000002]]) (by show _ = _; kernel_rfl)))))
  · obtain ⟨v21, v22, v23, v24, v25, v26⟩ := s
    try dsimp only at h
    refine fun a w hm => then_norm (((?_ : T Try.prog e 37 _ _ _) a w hm))
    refine T_region [(0, { frz := [(7, 3)] })] [6, 1000000, 1000001, 1000002] [] [(6, .box [dI a0, dI a1, .d (.sl 1 (v21.map cU))]), (1000000, .box [dI v22, dI v23, .d (.sl 1 (v24.map cU))]), (1000001, .box [dI v25]), (1000002, .box [dI v26])] [] 2 (by kernel_rfl) (trivial) ?_
    obtain hs := Option.some.inj h; subst hs
    refine T_ret fun a w hm => T_returnC (fr' := [(6, .box [dI a0, dI a1, .d (.sl 1 (v21.map cU))]), (1000000, .box [dI v22, dI v23, .d (.sl 1 (v24.map cU))]), (1000001, .box [dI v25]), (1000002, .box [dI v26])]) (ts := [37]) (N' := 38) (fr2 := [(37, .agg (cS_Plate (S_Plate.mk a0 a1 v21)))] ++ [(6, .box [dI a0, dI a1, .d (.sl 1 (v21.map cU))]), (1000000, .box [dI v22, dI v23, .d (.sl 1 (v24.map cU))]), (1000001, .box [dI v25]), (1000002, .box [dI v26])]) [.keep [6, 1000000, 1000001, 1000002]] (by kernel_rfl) (by kernel_rfl) (by kernel_rfl) (by kernel_rfl) (by show _ = _; kernel_rfl) (by exact ⟨⟨by kernel_rfl, by kernel_rfl⟩, ⟨⟨by kernel_rfl, by kernel_rfl⟩, ⟨⟨by kernel_rfl, by kernel_rfl⟩, trivial⟩⟩⟩) a w hm

theorem raster_Grid_uint8_Turn_c3_ok {F : Nat} {a0 : Int} {a1 : Int} {c2 : Int} {c3 : Int} {c4 : List UInt8} {c5 : Int} {r : Int × Int × Int × (List UInt8) × Int} (h : raster_Grid_uint8_Turn_c3 F a0 a1 c2 c3 c4 c5 = some r) : ACall Try.prog 60 [.d (.v (.int .i64 a0)), .d (.v (.int .i64 a1)), .bp 1000000 0, .bp 1000001 0] [.box [.d (.v (.int .i64 c2)), .d (.v (.int .i64 c3)), .d (.sl 1 (c4.map cU))], .box [.d (.v (.int .i64 c5))]] (.d (.v (.int .u8 r.1))) [.box [.d (.v (.int .i64 r.2.1)), .d (.v (.int .i64 r.2.2.1)), .d (.sl 1 (r.2.2.2.1.map cU))], .box [.d (.v (.int .i64 r.2.2.2.2))]] := by
  rw [raster_Grid_uint8_Turn_c3] at h
  refine ACall.intro (N := 19) Try.func60 rfl rfl rfl rfl rfl fun e => ?_
  refine T_region [] [0, 1, 2, 3, 1000000, 1000001] [] [(0, dI a0), (1, dI a1), (2, .bp 1000000 0), (3, .bp 1000001 0), (1000000, .box [dI c2, dI c3, .d (.sl 1 (c4.map cU))]), (1000001, .box [dI c5])] [] 1 (by kernel_rfl) (trivial) ?_
  obtain ⟨z1, hz1, h⟩ := lett_ok h
  obtain ⟨hp1, h⟩ := chk_ok h
  refine T_region [(9, { rw := some (dI z1) }), (10, { cs := cU (c4.getD z1.toNat 0) })] [6, 1000000, 1000001] [] [(6, .d (.v (.int .u8 ((c4.getD z1.toNat 0).toNat : Int)))), (1000000, .box [dI c2, dI c3, .d (.sl 1 (c4.map cU))]), (1000001, .box [dI c5])] [(9, (True) ∧ dI (IntKind.i64.wrap ((IntKind.i64.wrap ((IntKind.i64.wrap ((IntKind.i64.wrap (a0 * c5)) + c5)) - (1 : Int))) - a1)) = dI z1), (0, 0 ≤ z1 ∧ (c4.map cU)[z1.toNat]? = some (cU (c4.getD z1.toNat 0)))] 2 (by kernel_rfl) (⟨⟨trivial, (by subst hz1; rfl)⟩, idx_ok (d := 0) cU hp1⟩) ?_
  obtain hs := Option.some.inj h; subst hs
  refine T_ret fun a w hm => T_return (fr' := [(6, .d (.v (.int .u8 ((c4.getD z1.toNat 0).toNat : Int)))), (1000000, .box [dI c2, dI c3, .d (.sl 1 (c4.map cU))]), (1000001, .box [dI c5])]) [6] (by kernel_rfl) [.keep [6, 1000000, 1000001]] (by kernel_rfl) (by kernel_rfl) (by kernel_rfl) (by show _ = _; kernel_rfl) (by exact ⟨⟨by kernel_rfl, by kernel_rfl⟩, ⟨⟨by kernel_rfl, by kernel_rfl⟩, trivial⟩⟩) a w hm

theorem raster_build_uint8_v3_ok {F : Nat} {a0 : Int} {a1 : Int} {c2 : Int} {c3 : Int} {c4 : List UInt8} {c5 : Int} {r : S_Plate × Int × Int × (List UInt8) × Int} (h : raster_build_uint8_v3 F a0 a1 c2 c3 c4 c5 = some r) : ACall Try.prog 53 [.d (.v (.int .i64 a0)), .d (.v (.int .i64 a1)), .clo 60 [.bp 1000000 0, .bp 1000001 0]] [.box [.d (.v (.int .i64 c2)), .d (.v (.int .i64 c3)), .d (.sl 1 (c4.map cU))], .box [.d (.v (.int .i64 c5))]] (.agg (cS_Plate r.1)) [.box [.d (.v (.int .i64 r.2.1)), .d (.v (.int .i64 r.2.2.1)), .d (.sl 1 (r.2.2.2.1.map cU))], .box [.d (.v (.int .i64 r.2.2.2.2))]] := by
  rw [raster_build_uint8_v3] at h
  refine ACall.intro (N := 37) Try.func53 rfl rfl rfl rfl rfl fun e => ?_
  refine T_region [] [0, 1, 2, 6, 1000000, 1000001] [] [(0, dI a0), (1, dI a1), (2, .clo 60 [.bp 1000000 0, .bp 1000001 0]), (6, .box [dI 0, dI 0, oW0 []]), (1000000, .box [dI c2, dI c3, .d (.sl 1 (c4.map cU))]), (1000001, .box [dI c5])] [] 1 (by kernel_rfl) (trivial) ?_
  obtain ⟨hp1, h⟩ := chk_ok h
  refine T_region [(5, { es := some ((List.replicate (0 : Int).toNat 0).map cU) })] [0, 1, 2, 6, 7, 15, 1000000, 1000001] [.claimc 7 2, .keep [0, 1, 2, 6, 7, 1000000, 1000001]] [(0, dI a0), (1, dI a1), (2, .clo 60 [.bp 1000000 0, .bp 1000001 0]), (6, .box [dI 0, dI 0, oW0 []]), (7, .box [dI a0, dI a1, .own 5 1 ((List.replicate (0 : Int).toNat 0).map cU)]), (1000000, .box [dI c2, dI c3, .d (.sl 1 (c4.map cU))]), (1000001, .box [dI c5])] [(5, (0 ≤ (0 : Int) ∧ (0 : Int) ≤ (IntKind.i64.wrap (a0 * a1)) ∧ (IntKind.i64.wrap (a0 * a1)) ≤ 9223372036854775807 ∧ ((1 : Nat) : Int) * (IntKind.i64.wrap (a0 * a1)) ≤ 281474976710656) ∧ List.replicate (0 : Int).toNat (cU 0) = ((List.replicate (0 : Int).toNat 0).map cU))] 3 (by kernel_rfl) (⟨hp1, repl_ok cU rfl⟩) ?_
  refine T_seqk ?_
  refine T_region [] [0, 2, 6, 7, 17, 18, 1000000, 1000001] [] [(0, dI a0), (2, .clo 60 [.bp 1000000 0, .bp 1000001 0]), (6, .box [dI 0, dI 0, oW0 []]), (7, .box [dI a0, dI a1, .own 5 1 ((List.replicate (0 : Int).toNat 0).map cU)]), (17, dI a1), (18, dI (0 : Int)), (1000000, .box [dI c2, dI c3, .d (.sl 1 (c4.map cU))]), (1000001, .box [dI c5])] [] 2 (by kernel_rfl) (trivial) ?_
  refine T_joinct h (fun (p : (List UInt8) × Int × Int × (List UInt8) × Int) => [(6, .box [dI 0, dI 0, oW0 []]), (7, .box [dI a0, dI a1, oW0 p.1]), (1000000, .box [dI p.2.1, dI p.2.2.1, .d (.sl 1 (p.2.2.2.1.map cU))]), (1000001, .box [dI p.2.2.2.2])]) (fun s h => ?_) (fun s h => ?_)
  · refine T_co [.keep [0, 2, 6, 7, 17, 18, 1000000, 1000001]] ((fun (p : (List UInt8) × Int × Int × Int × (List UInt8) × Int) => [(0, dI a0), (2, .clo 60 [.bp 1000000 0, .bp 1000001 0]), (6, .box [dI 0, dI 0, oW0 []]), (7, .box [dI a0, dI a1, oW0 p.1]), (17, dI a1), (18, dI p.2.1), (1000000, .box [dI p.2.2.1, dI p.2.2.2.1, .d (.sl 1 (p.2.2.2.2.1.map cU))]), (1000001, .box [dI p.2.2.2.2.2])]) ((List.replicate (0 : Int).toNat 0), (0 : Int), c2, c3, c4, c5)) (by show _ = _; kernel_rfl) ?_
    refine T_block ?_
    refine T_loopF (ι := (List UInt8) × Int × Int × Int × (List UInt8) × Int) (fun (p : (List UInt8) × Int × Int × Int × (List UInt8) × Int) => [(0, dI a0), (2, .clo 60 [.bp 1000000 0, .bp 1000001 0]), (6, .box [dI 0, dI 0, oW0 []]), (7, .box [dI a0, dI a1, oW0 p.1]), (17, dI a1), (18, dI p.2.1), (1000000, .box [dI p.2.2.1, dI p.2.2.2.1, .d (.sl 1 (p.2.2.2.2.1.map cU))]), (1000001, .box [dI p.2.2.2.2.2])]) (fun n p => raster_build_uint8_v3_L0 F a0 a1 n p.1 p.2.1 p.2.2.1 p.2.2.2.1 p.2.2.2.2.1 p.2.2.2.2.2 = some s) (fun i hh => by simp [raster_build_uint8_v3_L0] at hh) (fun n p h => ?_) F ((List.replicate (0 : Int).toNat 0), (0 : Int), c2, c3, c4, c5) h
    obtain ⟨v8, v1, v9, v10, v11, v12⟩ := p
    have h : raster_build_uint8_v3_L0 F a0 a1 (n + 1) v8 v1 v9 v10 v11 v12 = some s := h
    rw [raster_build_uint8_v3_L0] at h
    refine T_region [] [0, 2, 6, 7, 17, 18, 19, 1000000, 1000001] [] [(0, dI a0), (2, .clo 60 [.bp 1000000 0, .bp 1000001 0]), (6, .box [dI 0, dI 0, oW0 []]), (7, .box [dI a0, dI a1, oW0 v8]), (17, dI a1), (18, dI v1), (19, dB (decide (v1 < a1))), (1000000, .box [dI v9, dI v10, .d (.sl 1 (v11.map cU))]), (1000001, .box [dI v12])] [] 1 (by kernel_rfl) (trivial) ?_
    refine T_seqk ?_
    refine T_cond (decide (v1 < a1)) (by kernel_rfl) (fun hc => ?_) (fun hc => ?_)
    · have h := cond_tt hc h
      refine T_skip fun a w hm => then_norm (((?_ : T Try.prog e 37 _ _ _) a w hm))
      refine T_seqk ?_
      refine T_block ?_
      refine T_region [] [0, 2, 6, 7, 8, 17, 18, 1000000, 1000001] [] [(0, dI a0), (2, .clo 60 [.bp 1000000 0, .bp 1000001 0]), (6, .box [dI 0, dI 0, oW0 []]), (7, .box [dI a0, dI a1, oW0 v8]), (8, dI v1), (17, dI a1), (18, dI v1), (1000000, .box [dI v9, dI v10, .d (.sl 1 (v11.map cU))]), (1000001, .box [dI v12])] [] 2 (by kernel_rfl) (trivial) ?_
      refine T_region [] [0, 2, 6, 7, 8, 17, 18, 21, 22, 1000000, 1000001] [] [(0, dI a0), (2, .clo 60 [.bp 1000000 0, .bp 1000001 0]), (6, .box [dI 0, dI 0, oW0 []]), (7, .box [dI a0, dI a1, oW0 v8]), (8, dI v1), (17, dI a1), (18, dI v1), (21, dI a0), (22, dI (0 : Int)), (1000000, .box [dI v9, dI v10, .d (.sl 1 (v11.map cU))]), (1000001, .box [dI v12])] [] 2 (by kernel_rfl) (trivial) ?_
      refine T_joinct h (fun (p : (List UInt8) × Int × Int × (List UInt8) × Int) => [(0, dI a0), (2, .clo 60 [.bp 1000000 0, .bp 1000001 0]), (6, .box [dI 0, dI 0, oW0 []]), (7, .box [dI a0, dI a1, oW0 p.1]), (17, dI a1), (18, dI v1), (1000000, .box [dI p.2.1, dI p.2.2.1, .d (.sl 1 (p.2.2.2.1.map cU))]), (1000001, .box [dI p.2.2.2.2])]) (fun s h => ?_) (fun s h => ?_)
      · refine T_co [.keep [0, 2, 6, 7, 8, 17, 18, 21, 22, 1000000, 1000001]] ((fun (p : (List UInt8) × Int × Int × Int × (List UInt8) × Int) => [(0, dI a0), (2, .clo 60 [.bp 1000000 0, .bp 1000001 0]), (6, .box [dI 0, dI 0, oW0 []]), (7, .box [dI a0, dI a1, oW0 p.1]), (8, dI v1), (17, dI a1), (18, dI v1), (21, dI a0), (22, dI p.2.1), (1000000, .box [dI p.2.2.1, dI p.2.2.2.1, .d (.sl 1 (p.2.2.2.2.1.map cU))]), (1000001, .box [dI p.2.2.2.2.2])]) (v8, (0 : Int), v9, v10, v11, v12)) (by show _ = _; kernel_rfl) ?_
        refine T_block ?_
        refine T_loopF (ι := (List UInt8) × Int × Int × Int × (List UInt8) × Int) (fun (p : (List UInt8) × Int × Int × Int × (List UInt8) × Int) => [(0, dI a0), (2, .clo 60 [.bp 1000000 0, .bp 1000001 0]), (6, .box [dI 0, dI 0, oW0 []]), (7, .box [dI a0, dI a1, oW0 p.1]), (8, dI v1), (17, dI a1), (18, dI v1), (21, dI a0), (22, dI p.2.1), (1000000, .box [dI p.2.2.1, dI p.2.2.2.1, .d (.sl 1 (p.2.2.2.2.1.map cU))]), (1000001, .box [dI p.2.2.2.2.2])]) (fun n p => raster_build_uint8_v3_L2 F a0 v1 n p.1 p.2.1 p.2.2.1 p.2.2.2.1 p.2.2.2.2.1 p.2.2.2.2.2 = some s) (fun i hh => by simp [raster_build_uint8_v3_L2] at hh) (fun n p h => ?_) F (v8, (0 : Int), v9, v10, v11, v12) h
        obtain ⟨v2, v3, v4, v5, v6, v7⟩ := p
        have h : raster_build_uint8_v3_L2 F a0 v1 (n + 1) v2 v3 v4 v5 v6 v7 = some s := h
        rw [raster_build_uint8_v3_L2] at h
        refine T_region [] [0, 2, 6, 7, 8, 17, 18, 21, 22, 23, 1000000, 1000001] [] [(0, dI a0), (2, .clo 60 [.bp 1000000 0, .bp 1000001 0]), (6, .box [dI 0, dI 0, oW0 []]), (7, .box [dI a0, dI a1, oW0 v2]), (8, dI v1), (17, dI a1), (18, dI v1), (21, dI a0), (22, dI v3), (23, dB (decide (v3 < a0))), (1000000, .box [dI v4, dI v5, .d (.sl 1 (v6.map cU))]), (1000001, .box [dI v7])] [] 1 (by kernel_rfl) (trivial) ?_
        refine T_seqk ?_
        refine T_cond (decide (v3 < a0)) (by kernel_rfl) (fun hc => ?_) (fun hc => ?_)
        · have h := cond_tt hc h
          refine T_skip fun a w hm => then_norm (((?_ : T Try.prog e 37 _ _ _) a w hm))
          refine T_seqk ?_
          refine T_block ?_
          refine T_region [] [0, 2, 6, 7, 8, 9, 17, 18, 21, 22, 1000000, 1000001] [] [(0, dI a0), (2, .clo 60 [.bp 1000000 0, .bp 1000001 0]), (6, .box [dI 0, dI 0, oW0 []]), (7, .box [dI a0, dI a1, oW0 v2]), (8, dI v1), (9, dI v3), (17, dI a1), (18, dI v1), (21, dI a0), (22, dI v3), (1000000, .box [dI v4, dI v5, .d (.sl 1 (v6.map cU))]), (1000001, .box [dI v7])] [] 2 (by kernel_rfl) (trivial) ?_
          obtain ⟨y1, hy1, h⟩ := call_ok h
          obtain ⟨hp2, h⟩ := chk_ok h
          obtain ⟨hp3, h⟩ := chk_ok h
          refine T_drawX_end mixed 3 (.take 0 (.take 2 (.take 3 (.take 4 (.all (.alt 1 (.all (.alt 5 (.all (.alt 6 (.all (.alt 7 (.take 8 (.all (.alt 9 .done .stop))) .stop)) .stop)) .stop)) (.alt 5 (.all (.alt 1 (.all (.alt 6 (.all (.alt 7 (.take 8 (.all (.alt 9 .done .stop))) .stop)) .stop)) (.alt 6 (.all (.alt 1 (.all (.alt 7 (.take 8 (.all (.alt 9 .done .stop))) .stop)) .stop)) .stop))) .stop))))))) ([0, 1, 0, 0, 0, 28, 32, 98, 255, 511], [0, 1, 0, 0, 0, 28, 32, 66, 0, 384]) 285 [(5, { res := .d (.v (.int .u8 y1.1)), vout := [.box [dI y1.2.1, dI y1.2.2.1, .d (.sl 1 (y1.2.2.2.1.map cU))], .box [dI y1.2.2.2.2]], xs := [1000000, 1000001] }), (6, { es := some (([(UInt8.ofNat y1.1.toNat)]).map cU) }), (7, { es := some ((v2 ++ ([(UInt8.ofNat y1.1.toNat)])).map cU) })] [0, 2, 6, 7, 8, 17, 18, 21, 22, 1000000, 1000001] [] [(0, dI a0), (2, .clo 60 [.bp 1000000 0, .bp 1000001 0]), (6, .box [dI 0, dI 0, oW0 []]), (7, .box [dI a0, dI a1, .own 5 1 ((v2 ++ ([(UInt8.ofNat y1.1.toNat)])).map cU)]), (8, dI v1), (17, dI a1), (18, dI v1), (21, dI a0), (22, dI v3), (1000000, .box [dI y1.2.1, dI y1.2.2.1, .d (.sl 1 (y1.2.2.2.1.map cU))]), (1000001, .box [dI y1.2.2.2.2])] ((fun (o5 : Prop) => fun (o6 : Prop) => fun (o7 : Prop) => [(5, o5), (0, o6), (0, o7), (2, o5), (1, o6), (0, o7), (2, o6), (1, o7)]) (ACall Try.prog 60 [dI v3, dI v1, .bp 1000000 0, .bp 1000001 0] [.box [dI v4, dI v5, .d (.sl 1 (v6.map cU))], .box [dI v7]] (.d (.v (.int .u8 y1.1))) [.box [dI y1.2.1, dI y1.2.2.1, .d (.sl 1 (y1.2.2.2.1.map cU))], .box [dI y1.2.2.2.2]]) ([[Dat.v (.int .u8 y1.1)]] = (([(UInt8.ofNat y1.1.toNat)]).map cU)) ((v2.map cU).length + (([(UInt8.ofNat y1.1.toNat)]).map cU).length ≤ 4294967296 ∧ (v2.map cU) ++ (([(UInt8.ofNat y1.1.toNat)]).map cU) = ((v2 ++ ([(UInt8.ofNat y1.1.toNat)])).map cU))) 2 (by kernel_rfl) (by kernel_rfl) (by kernel_rfl) (have p5 := raster_Grid_uint8_Turn_c3_ok hy1; have p6 := (lit_u hp2 (rfl : ([] : List (List Dat)) = ([] : List UInt8).map cU)); have p7 := app_ok cU hp3; ⟨p5, p6, p7, p5, p6, p7, p6, p7⟩) fun a w hm => inBlock_norm (then_norm (((?_ : T Try.prog e 37 _ _ _) a w hm)))
          refine T_region_end [] [0, 2, 6, 7, 8, 17, 18, 21, 22, 1000000, 1000001] [] [(0, dI a0), (2, .clo 60 [.bp 1000000 0, .bp 1000001 0]), (6, .box [dI 0, dI 0, oW0 []]), (7, .box [dI a0, dI a1, .own 5 1 ((v2 ++ ([(UInt8.ofNat y1.1.toNat)])).map cU)]), (8, dI v1), (17, dI a1), (18, dI v1), (21, dI a0), (22, dI (IntKind.i64.wrap (v3 + (1 : Int)))), (1000000, .box [dI y1.2.1, dI y1.2.2.1, .d (.sl 1 (y1.2.2.2.1.map cU))]), (1000001, .box [dI y1.2.2.2.2])] [] 2 (by kernel_rfl) (trivial) fun a w hm => then_norm (⟨((v2 ++ ([(UInt8.ofNat y1.1.toNat)])), IntKind.i64.wrap (v3 + (1 : Int)), y1.2.1, y1.2.2.1, y1.2.2.2.1, y1.2.2.2.2), h, hm.co (cs := [.keep [0, 2, 6, 7, 8, 17, 18, 21, 22, 1000000, 1000001]]) (by show _ = _; kernel_rfl)⟩)
        · have h := cond_ff hc h
          obtain hs := Option.some.inj h; subst hs
          refine T_exit fun a w hm => then_exit (then_exit (inBlock_exit (then_norm (hm.co (cs := [.keep [0, 2, 6, 7, 17, 18, 1000000, 1000001]]) (by show _ = _; kernel_rfl)))))
      · obtain ⟨v13, v14, v15, v16, v17⟩ := s
        try dsimp only at h
        refine fun a w hm => inBlock_norm (then_norm (((?_ : T Try.prog e 37 _ _ _) a w hm)))
        refine T_region_end [] [0, 2, 6, 7, 17, 18, 1000000, 1000001] [] [(0, dI a0), (2, .clo 60 [.bp 1000000 0, .bp 1000001 0]), (6, .box [dI 0, dI 0, oW0 []]), (7, .box [dI a0, dI a1, oW0 v13]), (17, dI a1), (18, dI (IntKind.i64.wrap (v1 + (1 : Int)))), (1000000, .box [dI v14, dI v15, .d (.sl 1 (v16.map cU))]), (1000001, .box [dI v17])] [] 2 (by kernel_rfl) (trivial) fun a w hm => then_norm (⟨(v13, IntKind.i64.wrap (v1 + (1 : Int)), v14, v15, v16, v17), h, hm.co (cs := [.keep [0, 2, 6, 7, 17, 18, 1000000, 1000001]]) (by show _ = _; kernel_rfl)⟩)
    · have h := cond_ff hc h
      obtain hs := Option.some.inj h; subst hs
      refine T_exit fun a w hm => then_exit (then_exit (inBlock_exit (then_norm (hm.co (cs := [.keep [6, 7, 1000000, 1000001]]) (by show _ = _; kernel_rfl)))))
  · obtain ⟨v18, v19, v20, v21, v22⟩ := s
    try dsimp only at h
    refine fun a w hm => then_norm (((?_ : T Try.prog e 37 _ _ _) a w hm))
    refine T_region [(0, { frz := [(7, 3)] })] [6, 1000000, 1000001] [] [(6, .box [dI a0, dI a1, .d (.sl 1 (v18.map cU))]), (1000000, .box [dI v19, dI v20, .d (.sl 1 (v21.map cU))]), (1000001, .box [dI v22])] [] 2 (by kernel_rfl) (trivial) ?_
    obtain hs := Option.some.inj h; subst hs
    refine T_ret fun a w hm => T_returnC (fr' := [(6, .box [dI a0, dI a1, .d (.sl 1 (v18.map cU))]), (1000000, .box [dI v19, dI v20, .d (.sl 1 (v21.map cU))]), (1000001, .box [dI v22])]) (ts := [37]) (N' := 38) (fr2 := [(37, .agg (cS_Plate (S_Plate.mk a0 a1 v18)))] ++ [(6, .box [dI a0, dI a1, .d (.sl 1 (v18.map cU))]), (1000000, .box [dI v19, dI v20, .d (.sl 1 (v21.map cU))]), (1000001, .box [dI v22])]) [.keep [6, 1000000, 1000001]] (by kernel_rfl) (by kernel_rfl) (by kernel_rfl) (by kernel_rfl) (by show _ = _; kernel_rfl) (by exact ⟨⟨by kernel_rfl, by kernel_rfl⟩, ⟨⟨by kernel_rfl, by kernel_rfl⟩, trivial⟩⟩) a w hm

theorem raster_Grid_uint8_Turn_ok {F : Nat} {a0 : S_Plate} {a1 : Int} {r : S_Plate × Int} (h : raster_Grid_uint8_Turn F a0 a1 = some r) : ACall Try.prog 38 [.agg (cS_Plate a0), .d (.v (.int .i64 a1))] [] (.tup [.agg (cS_Plate r.1), .d (.v (.int .i64 r.2))]) [] := by
  rw [raster_Grid_uint8_Turn] at h
  refine ACall.intro (N := 45) Try.func38 rfl rfl rfl rfl rfl fun e => ?_
  refine T_region [] [1, 2, 4] [] [(1, dI a1), (2, bx_Plate a0), (4, .box [dI 0, dI 0, oW0 []])] [] 3 (by kernel_rfl) (trivial) ?_
  refine T_seqk ?_
  obtain ⟨y1, hy1, h⟩ := call_ok h
  refine T_region [(1, { res := dI y1 })] [1, 2, 4, 6] [] [(1, dI a1), (2, bx_Plate a0), (4, .box [dI 0, dI 0, oW0 []]), (6, dI y1)] [(1, ACall Try.prog 41 [.agg (cS_Plate a0)] [] (dI y1) [])] 1 (by kernel_rfl) (raster_Grid_uint8_Check_ok hy1) ?_
  refine T_region [] [1, 2, 4, 6, 12] [] [(1, dI a1), (2, bx_Plate a0), (4, .box [dI 0, dI 0, oW0 []]), (6, dI y1), (12, dB (y1 != (0 : Int)))] [] 2 (by kernel_rfl) (trivial) ?_
  refine T_cond (y1 != (0 : Int)) (by kernel_rfl) (fun hc => ?_) (fun hc => ?_)
  · have h := cond_tt hc h
    refine T_region [(0, { take := [0] })] [4, 5] [.nilc 4 2 5 1, .keep [4, 5]] [(4, .box [dI 0, dI 0, oW0 []]), (5, dI y1)] [] 4 (by kernel_rfl) (trivial) ?_
    obtain hs := Option.some.inj h; subst hs
    refine T_ret fun a w hm => then_ret (T_returnC (fr' := [(4, .box [dI 0, dI 0, .fz 1 ([].map cU)]), (5, dI y1)]) (ts := [45, 5]) (N' := 46) (fr2 := [(45, .agg (cS_Plate (S_Plate.mk 0 0 [])))] ++ [(4, .box [dI 0, dI 0, .fz 1 ([].map cU)]), (5, dI y1)]) [.frz (4, 3), .keep [4, 5]] (by kernel_rfl) (by kernel_rfl) (by kernel_rfl) (by kernel_rfl) (by show _ = _; kernel_rfl) (by exact trivial) a w hm)
  · have h := cond_ff hc h
    refine T_skip fun a w hm => then_norm (((?_ : T Try.prog e 45 _ _ _) a w hm))
    refine T_drawX mixed 30 (.take 0 (.take 2 (.all (.alt 1 (.all (.alt 3 (.all (.alt 4 (.all (.alt 5 (.all (.alt 6 (.all (.alt 7 .done .stop)) .stop)) .stop)) (.alt 5 (.all (.alt 4 (.all (.alt 6 (.all (.alt 7 .done .stop)) .stop)) .stop)) .stop))) (.alt 4 (.all (.alt 3 (.all (.alt 5 (.all (.alt 6 (.all (.alt 7 .done .stop)) .stop)) .stop)) (.alt 5 (.all (.alt 3 (.all (.alt 6 (.all (.alt 7 .done .stop)) .stop)) (.alt 6 (.all (.alt 3 (.all (.alt 7 .done .stop)) .stop)) .stop))) .stop))) (.alt 5 (.all (.alt 3 (.all (.alt 4 (.all (.alt 6 (.all (.alt 7 .done .stop)) .stop)) .stop)) (.alt 4 (.all (.alt 3 (.all (.alt 6 (.all (.alt 7 .done .stop)) .stop)) (.alt 6 (.all (.alt 3 (.all (.alt 7 .done .stop)) .stop)) .stop))) .stop))) .stop)))) (.alt 3 (.all (.alt 1 (.all (.alt 4 (.all (.alt 5 (.all (.alt 6 (.all (.alt 7 .done .stop)) .stop)) .stop)) (.alt 5 (.all (.alt 4 (.all (.alt 6 (.all (.alt 7 .done .stop)) .stop)) .stop)) .stop))) (.alt 4 (.all (.alt 1 (.all (.alt 5 (.all (.alt 6 (.all (.alt 7 .done .stop)) .stop)) .stop)) (.alt 5 (.all (.alt 1 (.all (.alt 6 (.all (.alt 7 .done .stop)) .stop)) .stop)) .stop))) (.alt 5 (.all (.alt 1 (.all (.alt 4 (.all (.alt 6 (.all (.alt 7 .done .stop)) .stop)) .stop)) (.alt 4 (.all (.alt 1 (.all (.alt 6 (.all (.alt 7 .done .stop)) .stop)) .stop)) .stop))) .stop)))) (.alt 4 (.all (.alt 1 (.all (.alt 3 (.all (.alt 5 (.all (.alt 6 (.all (.alt 7 .done .stop)) .stop)) .stop)) (.alt 5 (.all (.alt 3 (.all (.alt 6 (.all (.alt 7 .done .stop)) .stop)) (.alt 6 (.all (.alt 3 (.all (.alt 7 .done .stop)) .stop)) .stop))) .stop))) (.alt 3 (.all (.alt 1 (.all (.alt 5 (.all (.alt 6 (.all (.alt 7 .done .stop)) .stop)) .stop)) (.alt 5 (.all (.alt 1 (.all (.alt 6 (.all (.alt 7 .done .stop)) .stop)) .stop)) .stop))) (.alt 5 (.all (.alt 1 (.all (.alt 3 (.all (.alt 6 (.all (.alt 7 .done .stop)) .stop)) (.alt 6 (.all (.alt 3 (.all (.alt 7 .done .stop)) .stop)) .stop))) (.alt 3 (.all (.alt 1 (.all (.alt 6 (.all (.alt 7 .done .stop)) .stop)) .stop)) .stop))) .stop)))) (.alt 5 (.all (.alt 1 (.all (.alt 3 (.all (.alt 4 (.all (.alt 6 (.all (.alt 7 .done .stop)) .stop)) .stop)) (.alt 4 (.all (.alt 3 (.all (.alt 6 (.all (.alt 7 .done .stop)) .stop)) (.alt 6 (.all (.alt 3 (.all (.alt 7 .done .stop)) .stop)) .stop))) .stop))) (.alt 3 (.all (.alt 1 (.all (.alt 4 (.all (.alt 6 (.all (.alt 7 .done .stop)) .stop)) .stop)) (.alt 4 (.all (.alt 1 (.all (.alt 6 (.all (.alt 7 .done .stop)) .stop)) .stop)) .stop))) (.alt 4 (.all (.alt 1 (.all (.alt 3 (.all (.alt 6 (.all (.alt 7 .done .stop)) .stop)) (.alt 6 (.all (.alt 3 (.all (.alt 7 .done .stop)) .stop)) .stop))) (.alt 3 (.all (.alt 1 (.all (.alt 6 (.all (.alt 7 .done .stop)) .stop)) .stop)) .stop))) .stop)))) .stop))))))) ([0, 1, 0, 4, 0, 0, 51, 127], [0, 1, 0, 4, 0, 0, 18, 40]) 5 [] [1, 2, 4, 7, 8] [] [(1, dI a1), (2, bx_Plate a0), (4, .box [dI 0, dI 0, oW0 []]), (7, .box [dI a0.f0]), (8, .box [dI a0.f1])] [] 132 (by kernel_rfl) (by kernel_rfl) (by kernel_rfl) (trivial) ?_
    refine T_seqk ?_
    obtain ⟨z1, hz1, h⟩ := lett_ok h
    refine T_region [(1, { rw := some (dI z1) })] [2, 4, 7, 8, 20] [] [(2, bx_Plate a0), (4, .box [dI 0, dI 0, oW0 []]), (7, .box [dI a0.f0]), (8, .box [dI a0.f1]), (20, dI z1)] [(1, (True) ∧ dI (IntKind.i64.wrap ((BitVec.ofInt IntKind.i64.bits a1 &&& BitVec.ofInt IntKind.i64.bits (3 : Int)).toNat : Int)) = dI z1)] 0 (by kernel_rfl) (⟨trivial, (by subst hz1; rfl)⟩) ?_
    refine T_block ?_
    refine T_region [] [2, 4, 7, 8, 20, 21] [] [(2, bx_Plate a0), (4, .box [dI 0, dI 0, oW0 []]), (7, .box [dI a0.f0]), (8, .box [dI a0.f1]), (20, dI z1), (21, dB (z1 == (1 : Int)))] [] 2 (by kernel_rfl) (trivial) ?_
    refine T_cond (z1 == (1 : Int)) (by kernel_rfl) (fun hc => ?_) (fun hc => ?_)
    · have h := cond_tt hc h
      obtain ⟨y2, hy2, h⟩ := call_ok h
      refine T_region [(3, { res := .agg (cS_Plate y2.1), vout := [.box [dI y2.2.1, dI y2.2.2.1, .d (.sl 1 (y2.2.2.2.1.map cU))], .box [dI y2.2.2.2.2.1], .box [dI y2.2.2.2.2.2]], xs := [2, 8, 7] })] [4, 5] [] [(4, bx_Plate y2.1), (5, dI (0 : Int))] [(3, ACall Try.prog 53 [dI a0.f1, dI a0.f0, .clo 58 [.bp 1000000 0, .bp 1000001 0, .bp 1000002 0]] [bx_Plate a0, .box [dI a0.f1], .box [dI a0.f0]] (.agg (cS_Plate y2.1)) [.box [dI y2.2.1, dI y2.2.2.1, .d (.sl 1 (y2.2.2.2.1.map cU))], .box [dI y2.2.2.2.2.1], .box [dI y2.2.2.2.2.2]])] 2 (by kernel_rfl) (raster_build_uint8_v1_ok hy2) ?_
      obtain hs := Option.some.inj h; subst hs
      refine T_ret fun a w hm => inBlock_ret (then_ret (T_returnC (fr' := [(4, bx_Plate y2.1), (5, dI (0 : Int))]) (ts := [45, 5]) (N' := 46) (fr2 := [(45, .agg (cS_Plate y2.1))] ++ [(4, bx_Plate y2.1), (5, dI (0 : Int))]) [.keep [4, 5]] (by kernel_rfl) (by kernel_rfl) (by kernel_rfl) (by kernel_rfl) (by show _ = _; kernel_rfl) (by exact trivial) a w hm))
    · have h := cond_ff hc h
      refine T_region [] [2, 4, 7, 8, 20, 27] [] [(2, bx_Plate a0), (4, .box [dI 0, dI 0, oW0 []]), (7, .box [dI a0.f0]), (8, .box [dI a0.f1]), (20, dI z1), (27, dB (z1 == (2 : Int)))] [] 2 (by kernel_rfl) (trivial) ?_
      refine T_cond (z1 == (2 : Int)) (by kernel_rfl) (fun hc => ?_) (fun hc => ?_)
      · have h := cond_tt hc h
        obtain ⟨y3, hy3, h⟩ := call_ok h
        refine T_region [(3, { res := .agg (cS_Plate y3.1), vout := [.box [dI y3.2.1, dI y3.2.2.1, .d (.sl 1 (y3.2.2.2.1.map cU))], .box [dI y3.2.2.2.2.1], .box [dI y3.2.2.2.2.2]], xs := [2, 8, 7] })] [4, 5] [] [(4, bx_Plate y3.1), (5, dI (0 : Int))] [(3, ACall Try.prog 53 [dI a0.f0, dI a0.f1, .clo 59 [.bp 1000000 0, .bp 1000001 0, .bp 1000002 0]] [bx_Plate a0, .box [dI a0.f1], .box [dI a0.f0]] (.agg (cS_Plate y3.1)) [.box [dI y3.2.1, dI y3.2.2.1, .d (.sl 1 (y3.2.2.2.1.map cU))], .box [dI y3.2.2.2.2.1], .box [dI y3.2.2.2.2.2]])] 2 (by kernel_rfl) (raster_build_uint8_v2_ok hy3) ?_
        obtain hs := Option.some.inj h; subst hs
        refine T_ret fun a w hm => inBlock_ret (then_ret (T_returnC (fr' := [(4, bx_Plate y3.1), (5, dI (0 : Int))]) (ts := [45, 5]) (N' := 46) (fr2 := [(45, .agg (cS_Plate y3.1))] ++ [(4, bx_Plate y3.1), (5, dI (0 : Int))]) [.keep [4, 5]] (by kernel_rfl) (by kernel_rfl) (by kernel_rfl) (by kernel_rfl) (by show _ = _; kernel_rfl) (by exact trivial) a w hm))
      · have h := cond_ff hc h
        refine T_region [] [2, 4, 7, 8, 33] [] [(2, bx_Plate a0), (4, .box [dI 0, dI 0, oW0 []]), (7, .box [dI a0.f0]), (8, .box [dI a0.f1]), (33, dB (z1 == (3 : Int)))] [] 2 (by kernel_rfl) (trivial) ?_
        refine T_cond (z1 == (3 : Int)) (by kernel_rfl) (fun hc => ?_) (fun hc => ?_)
        · have h := cond_tt hc h
          obtain ⟨y4, hy4, h⟩ := call_ok h
          refine T_region [(3, { res := .agg (cS_Plate y4.1), vout := [.box [dI y4.2.1, dI y4.2.2.1, .d (.sl 1 (y4.2.2.2.1.map cU))], .box [dI y4.2.2.2.2]], xs := [2, 7] })] [4, 5] [] [(4, bx_Plate y4.1), (5, dI (0 : Int))] [(3, ACall Try.prog 53 [dI a0.f1, dI a0.f0, .clo 60 [.bp 1000000 0, .bp 1000001 0]] [bx_Plate a0, .box [dI a0.f0]] (.agg (cS_Plate y4.1)) [.box [dI y4.2.1, dI y4.2.2.1, .d (.sl 1 (y4.2.2.2.1.map cU))], .box [dI y4.2.2.2.2]])] 2 (by kernel_rfl) (raster_build_uint8_v3_ok hy4) ?_
          obtain hs := Option.some.inj h; subst hs
          refine T_ret fun a w hm => inBlock_ret (then_ret (T_returnC (fr' := [(4, bx_Plate y4.1), (5, dI (0 : Int))]) (ts := [45, 5]) (N' := 46) (fr2 := [(45, .agg (cS_Plate y4.1))] ++ [(4, bx_Plate y4.1), (5, dI (0 : Int))]) [.keep [4, 5]] (by kernel_rfl) (by kernel_rfl) (by kernel_rfl) (by kernel_rfl) (by show _ = _; kernel_rfl) (by exact trivial) a w hm))
        · have h := cond_ff hc h
          refine T_skip fun a w hm => inBlock_norm (then_norm (((?_ : T Try.prog e 45 _ _ _) a w hm)))
          obtain ⟨y5, hy5, h⟩ := call_ok h
          refine T_drawX mixed 12 (.take 2 (.all (.alt 0 (.all (.alt 1 (.all (.alt 3 (.all (.alt 4 (.all (.alt 5 (.all (.alt 6 (.take 7 .done) .stop)) .stop)) .stop)) .stop)) (.alt 3 (.all (.alt 1 (.all (.alt 4 (.all (.alt 5 (.all (.alt 6 (.take 7 .done) .stop)) .stop)) .stop)) (.alt 4 (.all (.alt 1 (.all (.alt 5 (.all (.alt 6 (.take 7 .done) .stop)) .stop)) .stop)) .stop))) .stop))) (.alt 1 (.all (.alt 0 (.all (.alt 3 (.all (.alt 4 (.all (.alt 5 (.all (.alt 6 (.take 7 .done) .stop)) .stop)) .stop)) .stop)) (.alt 3 (.all (.alt 0 (.all (.alt 4 (.all (.alt 5 (.all (.alt 6 (.take 7 .done) .stop)) .stop)) .stop)) (.alt 4 (.all (.alt 0 (.all (.alt 5 (.all (.alt 6 (.take 7 .done) .stop)) .stop)) .stop)) .stop))) .stop))) (.alt 3 (.all (.alt 0 (.all (.alt 1 (.all (.alt 4 (.all (.alt 5 (.all (.alt 6 (.take 7 .done) .stop)) .stop)) .stop)) (.alt 4 (.all (.alt 1 (.all (.alt 5 (.all (.alt 6 (.take 7 .done) .stop)) .stop)) .stop)) .stop))) (.alt 1 (.all (.alt 0 (.all (.alt 4 (.all (.alt 5 (.all (.alt 6 (.take 7 .done) .stop)) .stop)) .stop)) (.alt 4 (.all (.alt 0 (.all (.alt 5 (.all (.alt 6 (.take 7 .done) .stop)) .stop)) .stop)) .stop))) (.alt 4 (.all (.alt 0 (.all (.alt 1 (.all (.alt 5 (.all (.alt 6 (.take 7 .done) .stop)) .stop)) .stop)) (.alt 1 (.all (.alt 0 (.all (.alt 5 (.all (.alt 6 (.take 7 .done) .stop)) .stop)) .stop)) .stop))) .stop)))) .stop))))) ([0, 0, 0, 4, 8, 19, 63, 127], [0, 0, 0, 4, 8, 19, 32, 0]) 132 [(4, { res := oW0 y5 }), (5, { frz := [(43, 0)] })] [4, 5] [] [(4, .box [dI a0.f0, dI a0.f1, .d (.sl 1 (y5.map cU))]), (5, dI (0 : Int))] ((fun (o4 : Prop) => [(4, o4), (5, o4), (3, o4), (7, o4), (5, o4), (3, o4), (7, o4), (3, o4), (6, o4), (3, o4), (4, o4)]) (ACall Try.prog 57 [.d (.sl 1 (a0.f2.map cU))] [] (oW0 y5) [])) 10 (by kernel_rfl) (by kernel_rfl) (by kernel_rfl) (have p4 := slices_Clone_uint8_ok hy5; ⟨p4, p4, p4, p4, p4, p4, p4, p4, p4, p4, p4⟩) ?_
          obtain hs := Option.some.inj h; subst hs
          refine T_ret fun a w hm => T_returnC (fr' := [(4, .box [dI a0.f0, dI a0.f1, .d (.sl 1 (y5.map cU))]), (5, dI (0 : Int))]) (ts := [45, 5]) (N' := 46) (fr2 := [(45, .agg (cS_Plate (S_Plate.mk a0.f0 a0.f1 y5)))] ++ [(4, .box [dI a0.f0, dI a0.f1, .d (.sl 1 (y5.map cU))]), (5, dI (0 : Int))]) [.keep [4, 5]] (by kernel_rfl) (by kernel_rfl) (by kernel_rfl) (by kernel_rfl) (by show _ = _; kernel_rfl) (by exact trivial) a w hm

theorem raster_Plate_ok {F : Nat} {a0 : S_Plate} {r : S_Plate} (h : raster_Plate F a0 = some r) : ACall Try.prog 39 [.agg (cS_Plate a0)] [] (.agg (cS_Plate r)) [] := by
  rw [raster_Plate] at h
  refine ACall.intro (N := 11) Try.func39 rfl rfl rfl rfl rfl fun e => ?_
  refine T_region [] [1, 2] [] [(1, bx_Plate a0), (2, .box [dI 0, dI 0, oW0 []])] [] 2 (by kernel_rfl) (trivial) ?_
  obtain ⟨y1, hy1, h⟩ := call_ok h
  refine T_drawX mixed 12 (.take 0 (.take 2 (.take 4 (.all (.alt 1 (.all (.alt 3 (.all (.alt 5 (.all (.alt 6 (.all (.alt 7 (.all (.alt 8 .done .stop)) .stop)) .stop)) .stop)) (.alt 5 (.all (.alt 3 (.all (.alt 6 (.all (.alt 7 (.all (.alt 8 .done .stop)) .stop)) .stop)) (.alt 6 (.all (.alt 3 (.all (.alt 7 (.all (.alt 8 .done .stop)) .stop)) .stop)) .stop))) .stop))) (.alt 3 (.all (.alt 1 (.all (.alt 5 (.all (.alt 6 (.all (.alt 7 (.all (.alt 8 .done .stop)) .stop)) .stop)) .stop)) (.alt 5 (.all (.alt 1 (.all (.alt 6 (.all (.alt 7 (.all (.alt 8 .done .stop)) .stop)) .stop)) (.alt 6 (.all (.alt 1 (.all (.alt 7 (.all (.alt 8 .done .stop)) .stop)) .stop)) .stop))) .stop))) (.alt 5 (.all (.alt 1 (.all (.alt 3 (.all (.alt 6 (.all (.alt 7 (.all (.alt 8 .done .stop)) .stop)) .stop)) (.alt 6 (.all (.alt 3 (.all (.alt 7 (.all (.alt 8 .done .stop)) .stop)) .stop)) .stop))) (.alt 3 (.all (.alt 1 (.all (.alt 6 (.all (.alt 7 (.all (.alt 8 .done .stop)) .stop)) .stop)) (.alt 6 (.all (.alt 1 (.all (.alt 7 (.all (.alt 8 .done .stop)) .stop)) .stop)) .stop))) (.alt 6 (.all (.alt 1 (.all (.alt 3 (.all (.alt 7 (.all (.alt 8 .done .stop)) .stop)) .stop)) (.alt 3 (.all (.alt 1 (.all (.alt 7 (.all (.alt 8 .done .stop)) .stop)) .stop)) .stop))) .stop)))) .stop))))))) ([0, 1, 0, 4, 0, 16, 32, 74, 255], [0, 1, 0, 4, 0, 16, 32, 74, 128]) 21 [(6, { res := oW0 y1 }), (7, { frz := [(9, 0)] })] [2] [] [(2, .box [dI a0.f0, dI a0.f1, .d (.sl 1 (y1.map cU))])] ((fun (o6 : Prop) => [(6, o6), (4, o6), (2, o6), (6, o6), (4, o6), (2, o6), (6, o6), (2, o6), (5, o6), (2, o6), (3, o6)]) (ACall Try.prog 57 [.d (.sl 1 (a0.f2.map cU))] [] (oW0 y1) [])) 8 (by kernel_rfl) (by kernel_rfl) (by kernel_rfl) (have p6 := slices_Clone_uint8_ok hy1; ⟨p6, p6, p6, p6, p6, p6, p6, p6, p6, p6, p6⟩) ?_
  obtain hs := Option.some.inj h; subst hs
  refine T_ret fun a w hm => T_returnC (fr' := [(2, .box [dI a0.f0, dI a0.f1, .d (.sl 1 (y1.map cU))])]) (ts := [11]) (N' := 12) (fr2 := [(11, .agg (cS_Plate (S_Plate.mk a0.f0 a0.f1 y1)))] ++ [(2, .box [dI a0.f0, dI a0.f1, .d (.sl 1 (y1.map cU))])]) [.keep [2]] (by kernel_rfl) (by kernel_rfl) (by kernel_rfl) (by kernel_rfl) (by show _ = _; kernel_rfl) (by exact trivial) a w hm

theorem bindery_part_ok {F : Nat} {a0 : S_Plate} {a1 : Int} {a2 : Int} {a3 : Int} {a4 : Int} {a5 : Int} {r : S_Plate} (h : bindery_part F a0 a1 a2 a3 a4 a5 = some r) : ACall Try.prog 21 [.agg (cS_Plate a0), .d (.v (.int .i64 a1)), .d (.v (.int .i64 a2)), .d (.v (.int .i64 a3)), .d (.v (.int .i64 a4)), .d (.v (.int .i64 a5))] [] (.agg (cS_Plate r)) [] := by
  rw [bindery_part] at h
  refine ACall.intro (N := 33) Try.func21 rfl rfl rfl rfl rfl fun e => ?_
  refine T_region [] [1, 2, 3, 4, 5, 6, 12] [] [(1, dI a1), (2, dI a2), (3, dI a3), (4, dI a4), (5, dI a5), (6, bx_Plate a0), (12, .box [dI 0, dI 0, oW0 []])] [] 2 (by kernel_rfl) (trivial) ?_
  obtain ⟨y1, hy1, h⟩ := call_ok h
  obtain ⟨y2, hy2, h⟩ := call_ok h
  refine T_region [(1, { res := .agg (cS_Plate y1) }), (6, { res := .tup [.agg (cS_Plate y2.1), dI y2.2] })] [5, 12, 13] [] [(5, dI a5), (12, .box [dI 0, dI 0, oW0 []]), (13, bx_Plate y2.1)] [(1, ACall Try.prog 37 [.agg (cS_Plate a0)] [] (.agg (cS_Plate y1)) []), (4, ACall Try.prog 42 [.agg (cS_Plate y1), dI a1, dI a2, dI a3, dI a4] [] (.tup [.agg (cS_Plate y2.1), dI y2.2]) [])] 6 (by kernel_rfl) (⟨raster_Of_ok hy1, raster_Grid_uint8_Crop_ok hy2⟩) ?_
  obtain ⟨y3, hy3, h⟩ := call_ok h
  refine T_region [(2, { res := .tup [.agg (cS_Plate y3.1), dI y3.2] })] [12, 13] [] [(12, .box [dI 0, dI 0, oW0 []]), (13, bx_Plate y3.1)] [(2, ACall Try.prog 38 [.agg (cS_Plate y2.1), dI a5] [] (.tup [.agg (cS_Plate y3.1), dI y3.2]) [])] 4 (by kernel_rfl) (raster_Grid_uint8_Turn_ok hy3) ?_
  obtain ⟨y4, hy4, h⟩ := call_ok h
  refine T_region [(1, { res := .agg (cS_Plate y4) })] [12] [] [(12, bx_Plate y4)] [(1, ACall Try.prog 39 [.agg (cS_Plate y3.1)] [] (.agg (cS_Plate y4)) [])] 1 (by kernel_rfl) (raster_Plate_ok hy4) ?_
  obtain hs := Option.some.inj h; subst hs
  refine T_ret fun a w hm => T_returnC (fr' := [(12, bx_Plate y4)]) (ts := [33]) (N' := 34) (fr2 := [(33, .agg (cS_Plate y4))] ++ [(12, bx_Plate y4)]) [.keep [12]] (by kernel_rfl) (by kernel_rfl) (by kernel_rfl) (by kernel_rfl) (by show _ = _; kernel_rfl) (by exact trivial) a w hm

set_option maxHeartbeats 8000000 in
set_option maxRecDepth 100000 in
theorem bindery_Cut_ok {F : Nat} {a0 : S_Plate} {a1 : S_Plate} {a2 : Int} {r : (List S_BinderySheet) × Int} (h : bindery_Cut F a0 a1 a2 = some r) : ACall Try.prog 6 [.agg (cS_Plate a0), .agg (cS_Plate a1), .d (.v (.int .i64 a2))] [] (.tup [.own 36 6 (r.1.map cS_BinderySheet), .d (.v (.int .i64 r.2))]) [] := by
  rw [bindery_Cut] at h
  refine ACall.intro (N := 105) Try.func6 rfl rfl rfl rfl rfl fun e => ?_
  refine T_region [] [2, 3, 4] [] [(2, dI a2), (3, bx_Plate a0), (4, bx_Plate a1)] [] 4 (by kernel_rfl) (trivial) ?_
  refine T_seqk ?_
  obtain ⟨y1, hy1, h⟩ := call_ok h
  refine T_region [(2, { res := dI y1 })] [2, 3, 4, 8] [] [(2, dI a2), (3, bx_Plate a0), (4, bx_Plate a1), (8, dI y1)] [(2, ACall Try.prog 20 [.agg (cS_Plate a0), .agg (cS_Plate a1)] [] (dI y1) [])] 1 (by kernel_rfl) (bindery_sides_ok hy1) ?_
  refine T_region [] [2, 3, 4, 8, 15] [] [(2, dI a2), (3, bx_Plate a0), (4, bx_Plate a1), (8, dI y1), (15, dB (y1 != (0 : Int)))] [] 2 (by kernel_rfl) (trivial) ?_
  refine T_cond (y1 != (0 : Int)) (by kernel_rfl) (fun hc => ?_) (fun hc => ?_)
  · have h := cond_tt hc h
    refine T_region [] [6, 7] [] [(6, oW1 []), (7, dI y1)] [] 3 (by kernel_rfl) (trivial) ?_
    obtain hs := Option.some.inj h; subst hs
    refine T_ret fun a w hm => then_ret (T_return (fr' := [(6, oW1 []), (7, dI y1)]) [6, 7] (by kernel_rfl) [.keep [6, 7]] (by kernel_rfl) (by kernel_rfl) (by kernel_rfl) (by show _ = _; kernel_rfl) (by exact trivial) a w hm)
  · have h := cond_ff hc h
    refine T_skip fun a w hm => then_norm (((?_ : T Try.prog e 105 _ _ _) a w hm))
    refine T_draw mixed [] [2, 3, 4, 9, 10] [] [(2, dI a2), (3, bx_Plate a0), (4, bx_Plate a1), (9, dI a0.f0), (10, dI a0.f1)] [] 6 (by kernel_rfl) (trivial) ?_
    refine T_seqk ?_
    refine T_block ?_
    refine T_region [] [2, 3, 4, 9, 10, 21] [] [(2, dI a2), (3, bx_Plate a0), (4, bx_Plate a1), (9, dI a0.f0), (10, dI a0.f1), (21, dB (bif (decide (a2 < (0 : Int))) then true else (decide (a2 > (2 : Int)))))] [(3, ((((decide (a2 < (0 : Int))) == false) && true) = true → True)), (0, ((((decide (a2 < (0 : Int))) == false) && true) = true → True))] 2 (by kernel_rfl) (⟨(fun hg => trivial), (fun hg => trivial)⟩) ?_
    refine T_cond (bif (decide (a2 < (0 : Int))) then true else (decide (a2 > (2 : Int)))) (by kernel_rfl) (fun hc => ?_) (fun hc => ?_)
    · have h := cond_tt hc h
      refine T_region [] [6, 7] [] [(6, oW1 []), (7, dI (14 : Int))] [] 2 (by kernel_rfl) (trivial) ?_
      obtain hs := Option.some.inj h; subst hs
      refine T_ret fun a w hm => inBlock_ret (then_ret (T_return (fr' := [(6, oW1 []), (7, dI (14 : Int))]) [6, 7] (by kernel_rfl) [.keep [6, 7]] (by kernel_rfl) (by kernel_rfl) (by kernel_rfl) (by show _ = _; kernel_rfl) (by exact trivial) a w hm))
    · have h := cond_ff hc h
      refine T_joinc h (fun (p : Bool) => [(2, dI a2), (3, bx_Plate a0), (4, bx_Plate a1), (9, dI a0.f0), (10, dI a0.f1), (28, dB p)]) (fun s h => ?_) (fun v1 h => ?_)
      · refine T_region [] [2, 3, 4, 9, 10, 28] [] [(2, dI a2), (3, bx_Plate a0), (4, bx_Plate a1), (9, dI a0.f0), (10, dI a0.f1), (28, dB (bif (a2 == (1 : Int)) then ((a0.f0.tmod (2 : Int)) == (1 : Int)) else false))] [(3, ((((a2 == (1 : Int)) == true) && true) = true → True)), (0, ((((a2 == (1 : Int)) == true) && true) = true → (2 : Int) ≠ 0)), (0, ((((a2 == (1 : Int)) == true) && true) = true → True))] 2 (by kernel_rfl) (⟨(fun hg => trivial), (fun hg => (show (2 : Int) ≠ 0 by decide)), (fun hg => trivial)⟩) ?_
        refine T_cond (bif (a2 == (1 : Int)) then ((a0.f0.tmod (2 : Int)) == (1 : Int)) else false) (by kernel_rfl) (fun hc => ?_) (fun hc => ?_)
        · have h := cond_tt hc h
          obtain hs := Option.some.inj h; subst hs
          refine T_skip fun a w hm => then_norm (hm.co (cs := [.keep [2, 3, 4, 9, 10, 28]]) (by show _ = _; kernel_rfl))
        · have h := cond_ff hc h
          obtain hs := Option.some.inj h; subst hs
          refine T_region_end [] [2, 3, 4, 9, 10, 28] [] [(2, dI a2), (3, bx_Plate a0), (4, bx_Plate a1), (9, dI a0.f0), (10, dI a0.f1), (28, dB (bif (a2 == (2 : Int)) then ((a0.f1.tmod (2 : Int)) == (1 : Int)) else false))] [(3, ((((a2 == (2 : Int)) == true) && true) = true → True)), (0, ((((a2 == (2 : Int)) == true) && true) = true → (2 : Int) ≠ 0)), (0, ((((a2 == (2 : Int)) == true) && true) = true → True))] 2 (by kernel_rfl) (⟨(fun hg => trivial), (fun hg => (show (2 : Int) ≠ 0 by decide)), (fun hg => trivial)⟩) fun a w hm => then_norm (hm.co (cs := [.keep [2, 3, 4, 9, 10, 28]]) (by show _ = _; kernel_rfl))
      · skip
        refine T_cond v1 (by kernel_rfl) (fun hc => ?_) (fun hc => ?_)
        · have h := cond_tt hc h
          refine T_region [] [6, 7] [] [(6, oW1 []), (7, dI (19 : Int))] [] 2 (by kernel_rfl) (trivial) ?_
          obtain hs := Option.some.inj h; subst hs
          refine T_ret fun a w hm => inBlock_ret (then_ret (T_return (fr' := [(6, oW1 []), (7, dI (19 : Int))]) [6, 7] (by kernel_rfl) [.keep [6, 7]] (by kernel_rfl) (by kernel_rfl) (by kernel_rfl) (by show _ = _; kernel_rfl) (by exact trivial) a w hm))
        · have h := cond_ff hc h
          refine T_region [] [2, 3, 4, 9, 10, 43] [] [(2, dI a2), (3, bx_Plate a0), (4, bx_Plate a1), (9, dI a0.f0), (10, dI a0.f1), (43, dB (a2 == (1 : Int)))] [] 3 (by kernel_rfl) (trivial) ?_
          refine T_cond (a2 == (1 : Int)) (by kernel_rfl) (fun hc => ?_) (fun hc => ?_)
          · have h := cond_tt hc h
            refine T_region [] [3, 4, 9, 10] [] [(3, bx_Plate a0), (4, bx_Plate a1), (9, dI (IntKind.i64.wrap (a0.f0.tdiv (2 : Int)))), (10, dI a0.f1)] [(1, (2 : Int) ≠ 0)] 1 (by kernel_rfl) ((show (2 : Int) ≠ 0 by decide)) ?_
            obtain ⟨y2, hy2, h⟩ := call_ok h
            obtain ⟨y3, hy3, h⟩ := call_ok h
            obtain ⟨y4, hy4, h⟩ := call_ok h
            obtain ⟨y5, hy5, h⟩ := call_ok h
            refine T_drawG mixed [(23, 0, some 1), (22, 2, some 2), (21, 6, some 5), (20, 38, some 6), (19, 102, some 7), (18, 230, some 11), (17, 2278, some 12), (16, 6374, some 15), (15, 39142, some 16), (14, 104678, some 17), (13, 235750, none), (12, 235751, none), (12, 235766, none), (12, 236774, none), (12, 252134, none), (11, 235759, none), (11, 235767, none), (11, 236775, none), (11, 236790, none), (11, 252135, none), (11, 252150, none), (11, 253158, none), (10, 235775, none), (10, 236783, none), (10, 236791, none), (10, 252143, none), (10, 252151, none), (10, 253159, none), (10, 253174, none), (9, 236031, none), (9, 236799, none), (9, 252159, none), (9, 253167, none), (9, 253175, none), (8, 236543, none), (8, 237055, none), (8, 252415, none), (8, 253183, none), (7, 237567, none), (7, 245247, none), (7, 252927, none), (7, 253439, none), (6, 245759, none), (6, 253951, none), (6, 261631, none), (5, 262143, none), (5, 523775, none), (4, 524287, none), (4, 1048063, none), (3, 1048575, none), (2, 2097151, some 21), (1, 4194303, some 22), (0, 8388607, none)] [(23, 7, dI (0 : Int)), (22, 6, .own 36 6 (([(S_BinderySheet.mk y2 y3), (S_BinderySheet.mk y4 y5)]).map cS_BinderySheet)), (22, 68, .junk), (21, 68, .own 36 6 (([(S_BinderySheet.mk y2 y3), (S_BinderySheet.mk y4 y5)]).map cS_BinderySheet)), (20, 67, .agg (cS_BinderySheet (S_BinderySheet.mk y4 y5))), (19, 66, .agg (cS_Plate y5)), (18, 65, dI a0.f1), (17, 64, dI (IntKind.i64.wrap (a0.f0.tdiv (2 : Int)))), (16, 63, dI (IntKind.i64.wrap (a0.f0.tdiv (2 : Int)))), (15, 62, .agg (cS_Plate a0)), (14, 61, .agg (cS_Plate y4)), (13, 60, dI a0.f1), (12, 59, dI (IntKind.i64.wrap (a0.f0.tdiv (2 : Int)))), (11, 58, .agg (cS_Plate a1)), (10, 57, .agg (cS_BinderySheet (S_BinderySheet.mk y2 y3))), (9, 56, .agg (cS_Plate y3)), (8, 55, dI a0.f1), (7, 54, dI (IntKind.i64.wrap (a0.f0.tdiv (2 : Int)))), (6, 53, dI (IntKind.i64.wrap (a0.f0.tdiv (2 : Int)))), (5, 52, .agg (cS_Plate a1)), (4, 51, .agg (cS_Plate y2)), (3, 50, dI a0.f1), (2, 49, dI (IntKind.i64.wrap (a0.f0.tdiv (2 : Int)))), (1, 48, .agg (cS_Plate a0)), (0, 3, bx_Plate a0), (0, 4, bx_Plate a1), (0, 9, dI (IntKind.i64.wrap (a0.f0.tdiv (2 : Int)))), (0, 10, dI a0.f1)] [3, 4, 6, 7, 9, 10, 48, 49, 50, 51, 52, 53, 54, 55, 56, 57, 58, 59, 60, 61, 62, 63, 64, 65, 66, 67, 68] ([0, 0, 0, 7, 0, 0, 0, 0, 248, 264, 0, 0, 0, 7424, 0, 0, 0, 0, 253952, 270336, 524800, 2097151, 4194303], [0, 0, 0, 7, 0, 0, 0, 0, 240, 264, 0, 0, 0, 7168, 0, 0, 0, 0, 245760, 270336, 524800, 1048576, 0]) 6527206 [(3, { res := .agg (cS_Plate y2) }), (8, { res := .agg (cS_Plate y3) }), (13, { res := .agg (cS_Plate y4) }), (18, { res := .agg (cS_Plate y5) }), (20, { es := some (([(S_BinderySheet.mk y2 y3), (S_BinderySheet.mk y4 y5)]).map cS_BinderySheet) })] [6, 7] [] [(6, .own 36 6 (([(S_BinderySheet.mk y2 y3), (S_BinderySheet.mk y4 y5)]).map cS_BinderySheet)), (7, dI (0 : Int))] ((fun (o3 : Prop) => fun (o8 : Prop) => fun (o13 : Prop) => fun (o18 : Prop) => fun (o20 : Prop) => [(14, o3), (15, o3), (2, o3), (4, o3), (6, o8), (4, o3), (3, o3), (1, o3), (5, o8), (1, o8), (2, o3), (3, o13), (3, o8), (0, o13), (5, o13), (1, o13), (1, o18), (0, o18), (4, o20)]) (ACall Try.prog 21 [.agg (cS_Plate a0), dI (0 : Int), dI (0 : Int), dI (IntKind.i64.wrap (a0.f0.tdiv (2 : Int))), dI a0.f1, dI (0 : Int)] [] (.agg (cS_Plate y2)) []) (ACall Try.prog 21 [.agg (cS_Plate a1), dI (IntKind.i64.wrap (a0.f0.tdiv (2 : Int))), dI (0 : Int), dI (IntKind.i64.wrap (a0.f0.tdiv (2 : Int))), dI a0.f1, dI (0 : Int)] [] (.agg (cS_Plate y3)) []) (ACall Try.prog 21 [.agg (cS_Plate a1), dI (0 : Int), dI (0 : Int), dI (IntKind.i64.wrap (a0.f0.tdiv (2 : Int))), dI a0.f1, dI (0 : Int)] [] (.agg (cS_Plate y4)) []) (ACall Try.prog 21 [.agg (cS_Plate a0), dI (IntKind.i64.wrap (a0.f0.tdiv (2 : Int))), dI (0 : Int), dI (IntKind.i64.wrap (a0.f0.tdiv (2 : Int))), dI a0.f1, dI (0 : Int)] [] (.agg (cS_Plate y5)) []) ((([(S_BinderySheet.mk y2 y3), (S_BinderySheet.mk y4 y5)]).map cS_BinderySheet) = (([(S_BinderySheet.mk y2 y3), (S_BinderySheet.mk y4 y5)]).map cS_BinderySheet))) 2 (by kernel_rfl) (by kernel_rfl) (by kernel_rfl) (by kernel_rfl) (by kernel_rfl) (by kernel_rfl) (have p3 := bindery_part_ok hy2; have p8 := bindery_part_ok hy3; have p13 := bindery_part_ok hy4; have p18 := bindery_part_ok hy5; have p20 := rfl; ⟨p3, p3, p3, p3, p8, p3, p3, p3, p8, p8, p3, p13, p8, p13, p13, p13, p18, p18, p20⟩) ?_
            obtain hs := Option.some.inj h; subst hs
            refine T_ret fun a w hm => inBlock_ret (then_ret (T_return (fr' := [(6, .own 36 6 (([(S_BinderySheet.mk y2 y3), (S_BinderySheet.mk y4 y5)]).map cS_BinderySheet)), (7, dI (0 : Int))]) [6, 7] (by kernel_rfl) [.keep [6, 7]] (by kernel_rfl) (by kernel_rfl) (by kernel_rfl) (by show _ = _; kernel_rfl) (by exact trivial) a w hm))
          · have h := cond_ff hc h
            refine T_region [] [3, 4, 9, 10, 69] [] [(3, bx_Plate a0), (4, bx_Plate a1), (9, dI a0.f0), (10, dI a0.f1), (69, dB (a2 == (2 : Int)))] [] 3 (by kernel_rfl) (trivial) ?_
            refine T_cond (a2 == (2 : Int)) (by kernel_rfl) (fun hc => ?_) (fun hc => ?_)
            · have h := cond_tt hc h
              refine T_region [] [3, 4, 9, 10] [] [(3, bx_Plate a0), (4, bx_Plate a1), (9, dI a0.f0), (10, dI (IntKind.i64.wrap (a0.f1.tdiv (2 : Int))))] [(1, (2 : Int) ≠ 0)] 1 (by kernel_rfl) ((show (2 : Int) ≠ 0 by decide)) ?_
              obtain ⟨y6, hy6, h⟩ := call_ok h
              obtain ⟨y7, hy7, h⟩ := call_ok h
              obtain ⟨y8, hy8, h⟩ := call_ok h
              obtain ⟨y9, hy9, h⟩ := call_ok h
              refine T_drawG mixed [(23, 0, some 1), (22, 2, some 2), (21, 6, some 5), (20, 38, some 6), (19, 102, some 7), (18, 230, some 11), (17, 2278, some 12), (16, 6374, some 15), (15, 39142, some 16), (14, 104678, some 17), (13, 235750, none), (12, 235751, none), (12, 235766, none), (12, 236774, none), (12, 252134, none), (11, 235759, none), (11, 235767, none), (11, 236775, none), (11, 236790, none), (11, 252135, none), (11, 252150, none), (11, 253158, none), (10, 235775, none), (10, 236783, none), (10, 236791, none), (10, 252143, none), (10, 252151, none), (10, 253159, none), (10, 253174, none), (9, 236031, none), (9, 236799, none), (9, 252159, none), (9, 253167, none), (9, 253175, none), (8, 236543, none), (8, 237055, none), (8, 252415, none), (8, 253183, none), (7, 237567, none), (7, 245247, none), (7, 252927, none), (7, 253439, none), (6, 245759, none), (6, 253951, none), (6, 261631, none), (5, 262143, none), (5, 523775, none), (4, 524287, none), (4, 1048063, none), (3, 1048575, none), (2, 2097151, some 21), (1, 4194303, some 22), (0, 8388607, none)] [(23, 7, dI (0 : Int)), (22, 6, .own 36 6 (([(S_BinderySheet.mk y6 y7), (S_BinderySheet.mk y8 y9)]).map cS_BinderySheet)), (22, 94, .junk), (21, 94, .own 36 6 (([(S_BinderySheet.mk y6 y7), (S_BinderySheet.mk y8 y9)]).map cS_BinderySheet)), (20, 93, .agg (cS_BinderySheet (S_BinderySheet.mk y8 y9))), (19, 92, .agg (cS_Plate y9)), (18, 91, dI (IntKind.i64.wrap (a0.f1.tdiv (2 : Int)))), (17, 90, dI a0.f0), (16, 89, dI (IntKind.i64.wrap (a0.f1.tdiv (2 : Int)))), (15, 88, .agg (cS_Plate a0)), (14, 87, .agg (cS_Plate y8)), (13, 86, dI (IntKind.i64.wrap (a0.f1.tdiv (2 : Int)))), (12, 85, dI a0.f0), (11, 84, .agg (cS_Plate a1)), (10, 83, .agg (cS_BinderySheet (S_BinderySheet.mk y6 y7))), (9, 82, .agg (cS_Plate y7)), (8, 81, dI (IntKind.i64.wrap (a0.f1.tdiv (2 : Int)))), (7, 80, dI a0.f0), (6, 79, dI (IntKind.i64.wrap (a0.f1.tdiv (2 : Int)))), (5, 78, .agg (cS_Plate a1)), (4, 77, .agg (cS_Plate y6)), (3, 76, dI (IntKind.i64.wrap (a0.f1.tdiv (2 : Int)))), (2, 75, dI a0.f0), (1, 74, .agg (cS_Plate a0)), (0, 3, bx_Plate a0), (0, 4, bx_Plate a1), (0, 9, dI a0.f0), (0, 10, dI (IntKind.i64.wrap (a0.f1.tdiv (2 : Int))))] [3, 4, 6, 7, 9, 10, 74, 75, 76, 77, 78, 79, 80, 81, 82, 83, 84, 85, 86, 87, 88, 89, 90, 91, 92, 93, 94] ([0, 0, 0, 7, 0, 0, 0, 0, 248, 264, 0, 0, 0, 7424, 0, 0, 0, 0, 253952, 270336, 524800, 2097151, 4194303], [0, 0, 0, 7, 0, 0, 0, 0, 240, 264, 0, 0, 0, 7168, 0, 0, 0, 0, 245760, 270336, 524800, 1048576, 0]) 6527206 [(3, { res := .agg (cS_Plate y6) }), (8, { res := .agg (cS_Plate y7) }), (13, { res := .agg (cS_Plate y8) }), (18, { res := .agg (cS_Plate y9) }), (20, { es := some (([(S_BinderySheet.mk y6 y7), (S_BinderySheet.mk y8 y9)]).map cS_BinderySheet) })] [6, 7] [] [(6, .own 36 6 (([(S_BinderySheet.mk y6 y7), (S_BinderySheet.mk y8 y9)]).map cS_BinderySheet)), (7, dI (0 : Int))] ((fun (o3 : Prop) => fun (o8 : Prop) => fun (o13 : Prop) => fun (o18 : Prop) => fun (o20 : Prop) => [(14, o3), (15, o3), (2, o3), (4, o3), (6, o8), (4, o3), (3, o3), (1, o3), (5, o8), (1, o8), (2, o3), (3, o13), (3, o8), (0, o13), (5, o13), (1, o13), (1, o18), (0, o18), (4, o20)]) (ACall Try.prog 21 [.agg (cS_Plate a0), dI (0 : Int), dI (0 : Int), dI a0.f0, dI (IntKind.i64.wrap (a0.f1.tdiv (2 : Int))), dI (0 : Int)] [] (.agg (cS_Plate y6)) []) (ACall Try.prog 21 [.agg (cS_Plate a1), dI (0 : Int), dI (IntKind.i64.wrap (a0.f1.tdiv (2 : Int))), dI a0.f0, dI (IntKind.i64.wrap (a0.f1.tdiv (2 : Int))), dI (2 : Int)] [] (.agg (cS_Plate y7)) []) (ACall Try.prog 21 [.agg (cS_Plate a1), dI (0 : Int), dI (0 : Int), dI a0.f0, dI (IntKind.i64.wrap (a0.f1.tdiv (2 : Int))), dI (0 : Int)] [] (.agg (cS_Plate y8)) []) (ACall Try.prog 21 [.agg (cS_Plate a0), dI (0 : Int), dI (IntKind.i64.wrap (a0.f1.tdiv (2 : Int))), dI a0.f0, dI (IntKind.i64.wrap (a0.f1.tdiv (2 : Int))), dI (2 : Int)] [] (.agg (cS_Plate y9)) []) ((([(S_BinderySheet.mk y6 y7), (S_BinderySheet.mk y8 y9)]).map cS_BinderySheet) = (([(S_BinderySheet.mk y6 y7), (S_BinderySheet.mk y8 y9)]).map cS_BinderySheet))) 2 (by kernel_rfl) (by kernel_rfl) (by kernel_rfl) (by kernel_rfl) (by kernel_rfl) (by kernel_rfl) (have p3 := bindery_part_ok hy6; have p8 := bindery_part_ok hy7; have p13 := bindery_part_ok hy8; have p18 := bindery_part_ok hy9; have p20 := rfl; ⟨p3, p3, p3, p3, p8, p3, p3, p3, p8, p8, p3, p13, p8, p13, p13, p13, p18, p18, p20⟩) ?_
              obtain hs := Option.some.inj h; subst hs
              refine T_ret fun a w hm => inBlock_ret (then_ret (T_return (fr' := [(6, .own 36 6 (([(S_BinderySheet.mk y6 y7), (S_BinderySheet.mk y8 y9)]).map cS_BinderySheet)), (7, dI (0 : Int))]) [6, 7] (by kernel_rfl) [.keep [6, 7]] (by kernel_rfl) (by kernel_rfl) (by kernel_rfl) (by show _ = _; kernel_rfl) (by exact trivial) a w hm))
            · have h := cond_ff hc h
              refine T_skip fun a w hm => inBlock_norm (then_norm (((?_ : T Try.prog e 105 _ _ _) a w hm)))
              obtain ⟨y10, hy10, h⟩ := call_ok h
              obtain ⟨y11, hy11, h⟩ := call_ok h
              refine T_drawX mixed 3 (.take 1 (.take 2 (.take 5 (.take 6 (.all (.alt 0 (.all (.alt 3 (.all (.alt 4 (.all (.alt 7 (.all (.alt 8 (.all (.alt 9 (.take 10 (.take 11 .done)) .stop)) .stop)) .stop)) .stop)) (.alt 4 (.all (.alt 3 (.all (.alt 7 (.all (.alt 8 (.all (.alt 9 (.take 10 (.take 11 .done)) .stop)) .stop)) .stop)) .stop)) .stop))) (.alt 4 (.all (.alt 0 (.all (.alt 3 (.all (.alt 7 (.all (.alt 8 (.all (.alt 9 (.take 10 (.take 11 .done)) .stop)) .stop)) .stop)) .stop)) .stop)) .stop))))))) ([0, 0, 0, 7, 0, 0, 0, 120, 136, 256, 1023, 2047], [0, 0, 0, 7, 0, 0, 0, 112, 136, 256, 512, 0]) 3174 [(3, { res := .agg (cS_Plate y10) }), (7, { res := .agg (cS_Plate y11) }), (9, { es := some (([(S_BinderySheet.mk y10 y11)]).map cS_BinderySheet) })] [6, 7] [] [(6, .own 36 6 (([(S_BinderySheet.mk y10 y11)]).map cS_BinderySheet)), (7, dI (0 : Int))] ((fun (o3 : Prop) => fun (o7 : Prop) => fun (o9 : Prop) => [(5, o3), (1, o7), (1, o9), (3, o3), (0, o7), (1, o9), (4, o3), (0, o7), (1, o9)]) (ACall Try.prog 21 [.agg (cS_Plate a0), dI (0 : Int), dI (0 : Int), dI a0.f0, dI a0.f1, dI (0 : Int)] [] (.agg (cS_Plate y10)) []) (ACall Try.prog 21 [.agg (cS_Plate a1), dI (0 : Int), dI (0 : Int), dI a0.f0, dI a0.f1, dI (0 : Int)] [] (.agg (cS_Plate y11)) []) ((([(S_BinderySheet.mk y10 y11)]).map cS_BinderySheet) = (([(S_BinderySheet.mk y10 y11)]).map cS_BinderySheet))) 2 (by kernel_rfl) (by kernel_rfl) (by kernel_rfl) (have p3 := bindery_part_ok hy10; have p7 := bindery_part_ok hy11; have p9 := rfl; ⟨p3, p7, p9, p3, p7, p9, p3, p7, p9⟩) ?_
              obtain hs := Option.some.inj h; subst hs
              refine T_ret fun a w hm => T_return (fr' := [(6, .own 36 6 (([(S_BinderySheet.mk y10 y11)]).map cS_BinderySheet)), (7, dI (0 : Int))]) [6, 7] (by kernel_rfl) [.keep [6, 7]] (by kernel_rfl) (by kernel_rfl) (by kernel_rfl) (by show _ = _; kernel_rfl) (by exact trivial) a w hm

theorem ref3_PlateError_ok {F : Nat} {a0 : S_Plate} {r : Int} (h : ref3_PlateError F a0 = some r) : ACall Try.prog 8 [.agg (cS_Plate a0)] [] (.d (.v (.int .i64 r))) [] := by
  rw [ref3_PlateError] at h
  refine ACall.intro (N := 30) Try.func8 rfl rfl rfl rfl rfl fun e => ?_
  refine T_region [] [1] [] [(1, bx_Plate a0)] [] 2 (by kernel_rfl) (trivial) ?_
  refine T_seqk ?_
  obtain ⟨z1, hz1, h⟩ := lett_ok h
  refine T_region [(12, { rw := some (dB z1) })] [1, 20] [] [(1, bx_Plate a0), (20, dB (bif z1 then true else (decide (a0.f1 > (1024 : Int)))))] [(4, ((((decide (a0.f0 < (1 : Int))) == false) && true) = true → True)), (0, ((((decide (a0.f0 < (1 : Int))) == false) && true) = true → True)), (0, ((((decide (a0.f0 < (1 : Int))) == false) && true) = true → True)), (2, ((((bif (decide (a0.f0 < (1 : Int))) then true else (decide (a0.f0 > (1024 : Int)))) == false) && true) = true → True)), (0, ((((bif (decide (a0.f0 < (1 : Int))) then true else (decide (a0.f0 > (1024 : Int)))) == false) && true) = true → True)), (0, ((((bif (decide (a0.f0 < (1 : Int))) then true else (decide (a0.f0 > (1024 : Int)))) == false) && true) = true → True)), (0, (True) ∧ dB (bif (bif (decide (a0.f0 < (1 : Int))) then true else (decide (a0.f0 > (1024 : Int)))) then true else (decide (a0.f1 < (1 : Int)))) = dB z1), (1, (((z1 == false) && true) = true → True)), (0, (((z1 == false) && true) = true → True)), (0, (((z1 == false) && true) = true → True))] 1 (by kernel_rfl) (⟨(fun hg => trivial), (fun hg => trivial), (fun hg => trivial), (fun hg => trivial), (fun hg => trivial), (fun hg => trivial), ⟨trivial, (by subst hz1; rfl)⟩, (fun hg => trivial), (fun hg => trivial), (fun hg => trivial)⟩) ?_
  refine T_cond (bif z1 then true else (decide (a0.f1 > (1024 : Int)))) (by kernel_rfl) (fun hc => ?_) (fun hc => ?_)
  · have h := cond_tt hc h
    refine T_region [] [2] [] [(2, dI (3 : Int))] [] 1 (by kernel_rfl) (trivial) ?_
    obtain hs := Option.some.inj h; subst hs
    refine T_ret fun a w hm => then_ret (T_return (fr' := [(2, dI (3 : Int))]) [2] (by kernel_rfl) [.keep [2]] (by kernel_rfl) (by kernel_rfl) (by kernel_rfl) (by show _ = _; kernel_rfl) (by exact trivial) a w hm)
  · have h := cond_ff hc h
    refine T_skip fun a w hm => then_norm (((?_ : T Try.prog e 30 _ _ _) a w hm))
    refine T_seqk ?_
    refine T_region [(2, { rw := some (dI (a0.f2.length : Int)) })] [29] [] [(29, dB ((a0.f2.length : Int) != (IntKind.i64.wrap (a0.f0 * a0.f1))))] [(2, True ∧ dI ((a0.f2.map cU).length : Int) = dI (a0.f2.length : Int))] 6 (by kernel_rfl) (len_ok cU) ?_
    refine T_cond ((a0.f2.length : Int) != (IntKind.i64.wrap (a0.f0 * a0.f1))) (by kernel_rfl) (fun hc => ?_) (fun hc => ?_)
    · have h := cond_tt hc h
      refine T_region [] [2] [] [(2, dI (4 : Int))] [] 1 (by kernel_rfl) (trivial) ?_
      obtain hs := Option.some.inj h; subst hs
      refine T_ret fun a w hm => then_ret (T_return (fr' := [(2, dI (4 : Int))]) [2] (by kernel_rfl) [.keep [2]] (by kernel_rfl) (by kernel_rfl) (by kernel_rfl) (by show _ = _; kernel_rfl) (by exact trivial) a w hm)
    · have h := cond_ff hc h
      refine T_skip fun a w hm => then_norm (((?_ : T Try.prog e 30 _ _ _) a w hm))
      refine T_region [] [2] [] [(2, dI (0 : Int))] [] 1 (by kernel_rfl) (trivial) ?_
      obtain hs := Option.some.inj h; subst hs
      refine T_ret fun a w hm => T_return (fr' := [(2, dI (0 : Int))]) [2] (by kernel_rfl) [.keep [2]] (by kernel_rfl) (by kernel_rfl) (by kernel_rfl) (by show _ = _; kernel_rfl) (by exact trivial) a w hm

theorem fold_flat_ok {F : Nat} {a0 : S_FoldScheme} {r : S_fold_sheet} (h : fold_flat F a0 = some r) : ACall Try.prog 62 [.agg (cS_FoldScheme a0)] [] (.agg (cS_fold_sheet r)) [] := by
  rw [fold_flat] at h
  refine ACall.intro (N := 33) Try.func62 rfl rfl rfl rfl rfl fun e => ?_
  refine T_region [] [1, 2] [] [(1, bx_FoldScheme a0), (2, .box [dI 0, dI 0, oW2 []])] [] 2 (by kernel_rfl) (trivial) ?_
  refine T_region [(4, { take := [0] })] [1, 2, 3] [.nilc 3 2 104 1, .keep [1, 2, 3]] [(1, bx_FoldScheme a0), (2, .box [dI 0, dI 0, oW2 []]), (3, .box [dI a0.f0, dI a0.f1, oW2 []])] [] 7 (by kernel_rfl) (trivial) ?_
  refine T_seqk ?_
  refine T_region [] [1, 2, 3, 12, 13] [] [(1, bx_FoldScheme a0), (2, .box [dI 0, dI 0, oW2 []]), (3, .box [dI a0.f0, dI a0.f1, oW2 []]), (12, dI a0.f1), (13, dI (0 : Int))] [] 3 (by kernel_rfl) (trivial) ?_
  refine T_joinct h (fun (p : (List (List S_FoldLeaf))) => [(2, .box [dI 0, dI 0, oW2 []]), (3, .box [dI a0.f0, dI a0.f1, oW2 p])]) (fun s h => ?_) (fun v6 h => ?_)
  · refine T_co [.keep [1, 2, 3, 12, 13]] ((fun (p : (List (List S_FoldLeaf)) × Int) => [(1, bx_FoldScheme a0), (2, .box [dI 0, dI 0, oW2 []]), (3, .box [dI a0.f0, dI a0.f1, oW2 p.1]), (12, dI a0.f1), (13, dI p.2)]) ([], (0 : Int))) (by show _ = _; kernel_rfl) ?_
    refine T_block ?_
    refine T_loopF (ι := (List (List S_FoldLeaf)) × Int) (fun (p : (List (List S_FoldLeaf)) × Int) => [(1, bx_FoldScheme a0), (2, .box [dI 0, dI 0, oW2 []]), (3, .box [dI a0.f0, dI a0.f1, oW2 p.1]), (12, dI a0.f1), (13, dI p.2)]) (fun n p => fold_flat_L0 F a0 n p.1 p.2 = some s) (fun i hh => by simp [fold_flat_L0] at hh) (fun n p h => ?_) F ([], (0 : Int)) h
    obtain ⟨v4, v1⟩ := p
    have h : fold_flat_L0 F a0 (n + 1) v4 v1 = some s := h
    rw [fold_flat_L0] at h
    refine T_region [] [1, 2, 3, 12, 13, 14] [] [(1, bx_FoldScheme a0), (2, .box [dI 0, dI 0, oW2 []]), (3, .box [dI a0.f0, dI a0.f1, oW2 v4]), (12, dI a0.f1), (13, dI v1), (14, dB (decide (v1 < a0.f1)))] [] 1 (by kernel_rfl) (trivial) ?_
    refine T_seqk ?_
    refine T_cond (decide (v1 < a0.f1)) (by kernel_rfl) (fun hc => ?_) (fun hc => ?_)
    · have h := cond_tt hc h
      refine T_skip fun a w hm => then_norm (((?_ : T Try.prog e 33 _ _ _) a w hm))
      refine T_seqk ?_
      refine T_block ?_
      refine T_region [] [1, 2, 3, 4, 12, 13] [] [(1, bx_FoldScheme a0), (2, .box [dI 0, dI 0, oW2 []]), (3, .box [dI a0.f0, dI a0.f1, oW2 v4]), (4, dI v1), (12, dI a0.f1), (13, dI v1)] [] 2 (by kernel_rfl) (trivial) ?_
      refine T_region [] [1, 2, 3, 4, 12, 13, 17, 18] [] [(1, bx_FoldScheme a0), (2, .box [dI 0, dI 0, oW2 []]), (3, .box [dI a0.f0, dI a0.f1, oW2 v4]), (4, dI v1), (12, dI a0.f1), (13, dI v1), (17, dI a0.f0), (18, dI (0 : Int))] [] 3 (by kernel_rfl) (trivial) ?_
      refine T_joinct h (fun (p : (List (List S_FoldLeaf))) => [(1, bx_FoldScheme a0), (2, .box [dI 0, dI 0, oW2 []]), (3, .box [dI a0.f0, dI a0.f1, oW2 p]), (12, dI a0.f1), (13, dI v1)]) (fun s h => ?_) (fun v5 h => ?_)
      · refine T_co [.keep [1, 2, 3, 4, 12, 13, 17, 18]] ((fun (p : (List (List S_FoldLeaf)) × Int) => [(1, bx_FoldScheme a0), (2, .box [dI 0, dI 0, oW2 []]), (3, .box [dI a0.f0, dI a0.f1, oW2 p.1]), (4, dI v1), (12, dI a0.f1), (13, dI v1), (17, dI a0.f0), (18, dI p.2)]) (v4, (0 : Int))) (by show _ = _; kernel_rfl) ?_
        refine T_block ?_
        refine T_loopF (ι := (List (List S_FoldLeaf)) × Int) (fun (p : (List (List S_FoldLeaf)) × Int) => [(1, bx_FoldScheme a0), (2, .box [dI 0, dI 0, oW2 []]), (3, .box [dI a0.f0, dI a0.f1, oW2 p.1]), (4, dI v1), (12, dI a0.f1), (13, dI v1), (17, dI a0.f0), (18, dI p.2)]) (fun n p => fold_flat_L2 F a0 v1 n p.1 p.2 = some s) (fun i hh => by simp [fold_flat_L2] at hh) (fun n p h => ?_) F (v4, (0 : Int)) h
        obtain ⟨v2, v3⟩ := p
        have h : fold_flat_L2 F a0 v1 (n + 1) v2 v3 = some s := h
        rw [fold_flat_L2] at h
        refine T_region [] [1, 2, 3, 4, 12, 13, 17, 18, 19] [] [(1, bx_FoldScheme a0), (2, .box [dI 0, dI 0, oW2 []]), (3, .box [dI a0.f0, dI a0.f1, oW2 v2]), (4, dI v1), (12, dI a0.f1), (13, dI v1), (17, dI a0.f0), (18, dI v3), (19, dB (decide (v3 < a0.f0)))] [] 1 (by kernel_rfl) (trivial) ?_
        refine T_seqk ?_
        refine T_cond (decide (v3 < a0.f0)) (by kernel_rfl) (fun hc => ?_) (fun hc => ?_)
        · have h := cond_tt hc h
          refine T_skip fun a w hm => then_norm (((?_ : T Try.prog e 33 _ _ _) a w hm))
          refine T_seqk ?_
          refine T_block ?_
          refine T_region [] [1, 2, 3, 4, 5, 12, 13, 17, 18] [] [(1, bx_FoldScheme a0), (2, .box [dI 0, dI 0, oW2 []]), (3, .box [dI a0.f0, dI a0.f1, oW2 v2]), (4, dI v1), (5, dI v3), (12, dI a0.f1), (13, dI v1), (17, dI a0.f0), (18, dI v3)] [] 2 (by kernel_rfl) (trivial) ?_
          obtain ⟨hp1, h⟩ := chk_ok h
          refine T_region_end [(5, { es := some (([(S_FoldLeaf.mk v3 v1 false false)]).map cS_FoldLeaf) }), (6, { frz := [(26, 0)], es := some (([[(S_FoldLeaf.mk v3 v1 false false)]]).map (cL 4 cS_FoldLeaf)) }), (7, { es := some ((v2 ++ ([[(S_FoldLeaf.mk v3 v1 false false)]])).map (cL 4 cS_FoldLeaf)) })] [1, 2, 3, 4, 12, 13, 17, 18] [] [(1, bx_FoldScheme a0), (2, .box [dI 0, dI 0, oW2 []]), (3, .box [dI a0.f0, dI a0.f1, .own 104 1 ((v2 ++ ([[(S_FoldLeaf.mk v3 v1 false false)]])).map (cL 4 cS_FoldLeaf))]), (4, dI v1), (12, dI a0.f1), (13, dI v1), (17, dI a0.f0), (18, dI v3)] [(5, (([(S_FoldLeaf.mk v3 v1 false false)]).map cS_FoldLeaf) = (([(S_FoldLeaf.mk v3 v1 false false)]).map cS_FoldLeaf)), (0, (([[(S_FoldLeaf.mk v3 v1 false false)]]).map (cL 4 cS_FoldLeaf)) = (([[(S_FoldLeaf.mk v3 v1 false false)]]).map (cL 4 cS_FoldLeaf))), (0, (v2.map (cL 4 cS_FoldLeaf)).length + (([[(S_FoldLeaf.mk v3 v1 false false)]]).map (cL 4 cS_FoldLeaf)).length ≤ 4294967296 ∧ (v2.map (cL 4 cS_FoldLeaf)) ++ (([[(S_FoldLeaf.mk v3 v1 false false)]]).map (cL 4 cS_FoldLeaf)) = ((v2 ++ ([[(S_FoldLeaf.mk v3 v1 false false)]])).map (cL 4 cS_FoldLeaf)))] 2 (by kernel_rfl) (⟨rfl, rfl, app_ok (cL 4 cS_FoldLeaf) hp1⟩) fun a w hm => inBlock_norm (then_norm (((?_ : T Try.prog e 33 _ _ _) a w hm)))
          refine T_region_end [] [1, 2, 3, 4, 12, 13, 17, 18] [] [(1, bx_FoldScheme a0), (2, .box [dI 0, dI 0, oW2 []]), (3, .box [dI a0.f0, dI a0.f1, .own 104 1 ((v2 ++ ([[(S_FoldLeaf.mk v3 v1 false false)]])).map (cL 4 cS_FoldLeaf))]), (4, dI v1), (12, dI a0.f1), (13, dI v1), (17, dI a0.f0), (18, dI (IntKind.i64.wrap (v3 + (1 : Int))))] [] 2 (by kernel_rfl) (trivial) fun a w hm => then_norm (⟨((v2 ++ ([[(S_FoldLeaf.mk v3 v1 false false)]])), IntKind.i64.wrap (v3 + (1 : Int))), h, hm.co (cs := [.keep [1, 2, 3, 4, 12, 13, 17, 18]]) (by show _ = _; kernel_rfl)⟩)
        · have h := cond_ff hc h
          obtain hs := Option.some.inj h; subst hs
          refine T_exit fun a w hm => then_exit (then_exit (inBlock_exit (then_norm (hm.co (cs := [.keep [1, 2, 3, 12, 13]]) (by show _ = _; kernel_rfl)))))
      · skip
        refine fun a w hm => inBlock_norm (then_norm (((?_ : T Try.prog e 33 _ _ _) a w hm)))
        refine T_region_end [] [1, 2, 3, 12, 13] [] [(1, bx_FoldScheme a0), (2, .box [dI 0, dI 0, oW2 []]), (3, .box [dI a0.f0, dI a0.f1, oW2 v5]), (12, dI a0.f1), (13, dI (IntKind.i64.wrap (v1 + (1 : Int))))] [] 2 (by kernel_rfl) (trivial) fun a w hm => then_norm (⟨(v5, IntKind.i64.wrap (v1 + (1 : Int))), h, hm.co (cs := [.keep [1, 2, 3, 12, 13]]) (by show _ = _; kernel_rfl)⟩)
    · have h := cond_ff hc h
      obtain hs := Option.some.inj h; subst hs
      refine T_exit fun a w hm => then_exit (then_exit (inBlock_exit (then_norm (hm.co (cs := [.keep [2, 3]]) (by show _ = _; kernel_rfl)))))
  · skip
    refine fun a w hm => then_norm (((?_ : T Try.prog e 33 _ _ _) a w hm))
    refine T_region [(0, { frz := [(3, 3)] })] [2] [] [(2, .box [dI a0.f0, dI a0.f1, .d (.sl 1 (v6.map (cL 4 cS_FoldLeaf)))])] [] 2 (by kernel_rfl) (trivial) ?_
    obtain hs := Option.some.inj h; subst hs
    refine T_ret fun a w hm => T_returnC (fr' := [(2, .box [dI a0.f0, dI a0.f1, .d (.sl 1 (v6.map (cL 4 cS_FoldLeaf)))])]) (ts := [33]) (N' := 34) (fr2 := [(33, .agg (cS_fold_sheet (S_fold_sheet.mk a0.f0 a0.f1 v6)))] ++ [(2, .box [dI a0.f0, dI a0.f1, .d (.sl 1 (v6.map (cL 4 cS_FoldLeaf)))])]) [.keep [2]] (by kernel_rfl) (by kernel_rfl) (by kernel_rfl) (by kernel_rfl) (by show _ = _; kernel_rfl) (by exact trivial) a w hm

theorem fold_across_ok {F : Nat} {a0 : S_FoldStep} {r : Bool} (h : fold_across F a0 = some r) : ACall Try.prog 67 [.agg (cS_FoldStep a0)] [] (.d (.v (.bool r))) [] := by
  rw [fold_across] at h
  refine ACall.intro (N := 11) Try.func67 rfl rfl rfl rfl rfl fun e => ?_
  refine T_region [] [1] [] [(1, bx_FoldStep a0)] [] 2 (by kernel_rfl) (trivial) ?_
  refine T_region [] [2] [] [(2, dB (bif (a0.f0 == (0 : Int)) then true else (a0.f0 == (1 : Int))))] [(4, ((((a0.f0 == (0 : Int)) == false) && true) = true → True)), (0, ((((a0.f0 == (0 : Int)) == false) && true) = true → True)), (0, ((((a0.f0 == (0 : Int)) == false) && true) = true → True))] 2 (by kernel_rfl) (⟨(fun hg => trivial), (fun hg => trivial), (fun hg => trivial)⟩) ?_
  obtain hs := Option.some.inj h; subst hs
  refine T_ret fun a w hm => T_return (fr' := [(2, dB (bif (a0.f0 == (0 : Int)) then true else (a0.f0 == (1 : Int))))]) [2] (by kernel_rfl) [.keep [2]] (by kernel_rfl) (by kernel_rfl) (by kernel_rfl) (by show _ = _; kernel_rfl) (by exact trivial) a w hm

theorem fold_sheet_extent_ok {F : Nat} {a0 : S_fold_sheet} {a1 : S_FoldStep} {r : Int} (h : fold_sheet_extent F a0 a1 = some r) : ACall Try.prog 63 [.agg (cS_fold_sheet a0), .agg (cS_FoldStep a1)] [] (.d (.v (.int .i64 r))) [] := by
  rw [fold_sheet_extent] at h
  refine ACall.intro (N := 11) Try.func63 rfl rfl rfl rfl rfl fun e => ?_
  refine T_region [] [2, 3] [] [(2, bx_fold_sheet a0), (3, bx_FoldStep a1)] [] 3 (by kernel_rfl) (trivial) ?_
  refine T_seqk ?_
  obtain ⟨y1, hy1, h⟩ := call_ok h
  refine T_region [(1, { res := dB y1 })] [2, 6] [] [(2, bx_fold_sheet a0), (6, dB y1)] [(1, ACall Try.prog 67 [.agg (cS_FoldStep a1)] [] (dB y1) [])] 0 (by kernel_rfl) (fold_across_ok hy1) ?_
  refine T_cond y1 (by kernel_rfl) (fun hc => ?_) (fun hc => ?_)
  · have h := cond_tt hc h
    refine T_region [] [4] [] [(4, dI a0.f0)] [] 3 (by kernel_rfl) (trivial) ?_
    obtain hs := Option.some.inj h; subst hs
    refine T_ret fun a w hm => then_ret (T_return (fr' := [(4, dI a0.f0)]) [4] (by kernel_rfl) [.keep [4]] (by kernel_rfl) (by kernel_rfl) (by kernel_rfl) (by show _ = _; kernel_rfl) (by exact trivial) a w hm)
  · have h := cond_ff hc h
    refine T_skip fun a w hm => then_norm (((?_ : T Try.prog e 11 _ _ _) a w hm))
    refine T_region [] [4] [] [(4, dI a0.f1)] [] 3 (by kernel_rfl) (trivial) ?_
    obtain hs := Option.some.inj h; subst hs
    refine T_ret fun a w hm => T_return (fr' := [(4, dI a0.f1)]) [4] (by kernel_rfl) [.keep [4]] (by kernel_rfl) (by kernel_rfl) (by kernel_rfl) (by show _ = _; kernel_rfl) (by exact trivial) a w hm

theorem fold_sheet_pile_ok {F : Nat} {a0 : S_fold_sheet} {a1 : Int} {a2 : Int} {r : (List S_FoldLeaf)} (h : fold_sheet_pile F a0 a1 a2 = some r) : ACall Try.prog 68 [.agg (cS_fold_sheet a0), .d (.v (.int .i64 a1)), .d (.v (.int .i64 a2))] [] (.d (.sl 4 (r.map cS_FoldLeaf))) [] := by
  rw [fold_sheet_pile] at h
  refine ACall.intro (N := 35) Try.func68 rfl rfl rfl rfl rfl fun e => ?_
  refine T_region [] [1, 2, 3] [] [(1, dI a1), (2, dI a2), (3, bx_fold_sheet a0)] [] 2 (by kernel_rfl) (trivial) ?_
  refine T_seqk ?_
  obtain ⟨z1, hz1, h⟩ := lett_ok h
  refine T_region [(11, { rw := some (dB z1) })] [1, 2, 3, 24] [] [(1, dI a1), (2, dI a2), (3, bx_fold_sheet a0), (24, dB (bif z1 then true else (decide (a2 ≥ a0.f1))))] [(3, ((((decide (a1 < (0 : Int))) == false) && true) = true → True)), (0, ((((decide (a1 < (0 : Int))) == false) && true) = true → True)), (2, ((((bif (decide (a1 < (0 : Int))) then true else (decide (a2 < (0 : Int)))) == false) && true) = true → True)), (0, ((((bif (decide (a1 < (0 : Int))) then true else (decide (a2 < (0 : Int)))) == false) && true) = true → True)), (0, ((((bif (decide (a1 < (0 : Int))) then true else (decide (a2 < (0 : Int)))) == false) && true) = true → True)), (0, ((((bif (decide (a1 < (0 : Int))) then true else (decide (a2 < (0 : Int)))) == false) && true) = true → True)), (0, (True) ∧ dB (bif (bif (decide (a1 < (0 : Int))) then true else (decide (a2 < (0 : Int)))) then true else (decide (a1 ≥ a0.f0))) = dB z1), (1, (((z1 == false) && true) = true → True)), (0, (((z1 == false) && true) = true → True)), (0, (((z1 == false) && true) = true → True)), (0, (((z1 == false) && true) = true → True))] 1 (by kernel_rfl) (⟨(fun hg => trivial), (fun hg => trivial), (fun hg => trivial), (fun hg => trivial), (fun hg => trivial), (fun hg => trivial), ⟨trivial, (by subst hz1; rfl)⟩, (fun hg => trivial), (fun hg => trivial), (fun hg => trivial), (fun hg => trivial)⟩) ?_
  refine T_cond (bif z1 then true else (decide (a2 ≥ a0.f1))) (by kernel_rfl) (fun hc => ?_) (fun hc => ?_)
  · have h := cond_tt hc h
    refine T_region [] [6] [] [(6, oW3 [])] [] 1 (by kernel_rfl) (trivial) ?_
    obtain hs := Option.some.inj h; subst hs
    refine T_ret fun a w hm => then_ret (T_return (fr' := [(6, .d (.sl 4 ([].map cS_FoldLeaf)))]) [6] (by kernel_rfl) [.thaw 6, .keep [6]] (by kernel_rfl) (by kernel_rfl) (by kernel_rfl) (by show _ = _; kernel_rfl) (by exact trivial) a w hm)
  · have h := cond_ff hc h
    refine T_skip fun a w hm => then_norm (((?_ : T Try.prog e 35 _ _ _) a w hm))
    obtain ⟨hp1, h⟩ := chk_ok h
    refine T_region [(8, { cs := (cL 4 cS_FoldLeaf) (a0.f2.getD (IntKind.i64.wrap ((IntKind.i64.wrap (a2 * a0.f0)) + a1)).toNat []) })] [6] [] [(6, .d (.sl 4 ((a0.f2.getD (IntKind.i64.wrap ((IntKind.i64.wrap (a2 * a0.f0)) + a1)).toNat []).map cS_FoldLeaf)))] [(8, 0 ≤ (IntKind.i64.wrap ((IntKind.i64.wrap (a2 * a0.f0)) + a1)) ∧ (a0.f2.map (cL 4 cS_FoldLeaf))[(IntKind.i64.wrap ((IntKind.i64.wrap (a2 * a0.f0)) + a1)).toNat]? = some ((cL 4 cS_FoldLeaf) (a0.f2.getD (IntKind.i64.wrap ((IntKind.i64.wrap (a2 * a0.f0)) + a1)).toNat [])))] 2 (by kernel_rfl) (idx_ok (d := []) (cL 4 cS_FoldLeaf) hp1) ?_
    obtain hs := Option.some.inj h; subst hs
    refine T_ret fun a w hm => T_return (fr' := [(6, .d (.sl 4 ((a0.f2.getD (IntKind.i64.wrap ((IntKind.i64.wrap (a2 * a0.f0)) + a1)).toNat []).map cS_FoldLeaf)))]) [6] (by kernel_rfl) [.keep [6]] (by kernel_rfl) (by kernel_rfl) (by kernel_rfl) (by show _ = _; kernel_rfl) (by exact trivial) a w hm


theorem slices_Grow_FoldLeaf_ok {F : Nat} {a0 : Int} {r : (List S_FoldLeaf)} (h : slices_Grow_FoldLeaf F a0 = some r) : ACall Try.prog 72 [.d (.v (.slice none 0 0)), .d (.v (.int .i64 a0))] [] (.own 108 4 (r.map cS_FoldLeaf)) [] := by
  rw [slices_Grow_FoldLeaf] at h
  refine ACall.intro (N := 27) Try.func72 rfl rfl rfl rfl rfl fun e => ?_
  refine T_region [] [0, 1] [] [(0, .d (.v (.slice none 0 0))), (1, dI a0)] [] 1 (by kernel_rfl) (trivial) ?_
  refine T_seqk ?_
  refine T_region [] [0, 1, 6] [] [(0, .d (.v (.slice none 0 0))), (1, dI a0), (6, dB (decide (a0 < (0 : Int))))] [] 2 (by kernel_rfl) (trivial) ?_
  refine T_cond (decide (a0 < (0 : Int))) (by kernel_rfl) (fun hc => ?_) (fun hc => ?_)
  · have h := cond_tt hc h
    cases h
  · have h := cond_ff hc h
    refine T_skip fun a w hm => then_norm (((?_ : T Try.prog e 27 _ _ _) a w hm))
    refine T_joinc h (fun (p : (List S_FoldLeaf)) => [(0, oW3 p)]) (fun s h => ?_) (fun v1 h => ?_)
    · refine T_region [] [0, 1] [] [(0, .d (.v (.slice none 0 0))), (1, dI (IntKind.i64.wrap (a0 - (IntKind.i64.wrap ((0 : Int) - (([] : List Int).length : Int))))))] [] 8 (by kernel_rfl) (trivial) ?_
      obtain ⟨z1, hz1, h⟩ := lett_ok h
      refine T_region [(1, { rw := some (dB z1) })] [0, 1, 16] [] [(0, .d (.v (.slice none 0 0))), (1, dI (IntKind.i64.wrap (a0 - (IntKind.i64.wrap ((0 : Int) - (([] : List Int).length : Int)))))), (16, dB z1)] [(1, (True) ∧ dB (decide ((IntKind.i64.wrap (a0 - (IntKind.i64.wrap ((0 : Int) - (([] : List Int).length : Int))))) > (0 : Int))) = dB z1)] 0 (by kernel_rfl) (⟨trivial, (by subst hz1; rfl)⟩) ?_
      refine T_cond z1 (by kernel_rfl) (fun hc => ?_) (fun hc => ?_)
      · have h := cond_tt hc h
        obtain ⟨hp1, h⟩ := chk_ok h
        obtain ⟨hp2, h⟩ := chk_ok h
        obtain ⟨l1, hl1, h⟩ := lett_ok h
        obtain ⟨hp3, h⟩ := chk_ok h
        obtain hs := Option.some.inj h; subst hs
        refine T_region_end [(5, { es := some (l1.map cS_FoldLeaf) }), (8, { take := [0], es := some ((l1.take (([] : List Int).length : Int).toNat).map cS_FoldLeaf) })] [0] [] [(0, .own 108 4 ((l1.take (([] : List Int).length : Int).toNat).map cS_FoldLeaf))] [(3, 0 ≤ (0 : Int) ∧ (0 : Int) ≤ (0 : Int) ∧ (0 : Int) ≤ 0), (1, (0 < (IntKind.i64.wrap (a0 - (IntKind.i64.wrap ((0 : Int) - (([] : List Int).length : Int))))) ∧ (IntKind.i64.wrap (a0 - (IntKind.i64.wrap ((0 : Int) - (([] : List Int).length : Int))))) ≤ 4294967296) ∧ List.replicate (IntKind.i64.wrap (a0 - (IntKind.i64.wrap ((0 : Int) - (([] : List Int).length : Int))))).toNat (cS_FoldLeaf (S_FoldLeaf.mk 0 0 false false)) = (l1.map cS_FoldLeaf)), (2, (0 ≤ (([] : List Int).length : Int) ∧ (([] : List Int).length : Int) ≤ ((l1.map cS_FoldLeaf).length : Int)) ∧ (l1.map cS_FoldLeaf).take (([] : List Int).length : Int).toNat = ((l1.take (([] : List Int).length : Int).toNat).map cS_FoldLeaf))] 1 (by kernel_rfl) (⟨hp1, and_trans (⟨hp2, repl_ok cS_FoldLeaf rfl⟩) (by subst hl1; rfl), take_ok cS_FoldLeaf hp3⟩) fun a w hm => then_norm (hm.co (cs := [.keep [0]]) (by show _ = _; kernel_rfl))
      · have h := cond_ff hc h
        obtain hs := Option.some.inj h; subst hs
        refine T_skip fun a w hm => then_norm (hm.co (cs := [.nil 0 108 4, .keep [0]]) (by show _ = _; kernel_rfl))
    · skip
      refine T_region [] [0, 4] [] [(0, oW3 v1), (4, .vw (0, 0))] [] 2 (by kernel_rfl) (trivial) ?_
      obtain hs := Option.some.inj h; subst hs
      refine T_ret fun a w hm => T_return (fr' := [(4, oW3 v1)]) [4] (by kernel_rfl) [.claim 4, .keep [4]] (by kernel_rfl) (by kernel_rfl) (by kernel_rfl) (by show _ = _; kernel_rfl) (by exact trivial) a w hm

theorem slices_Concat_FoldLeaf_ok {F : Nat} {a0 : List (List S_FoldLeaf)} {r : (List S_FoldLeaf)} (h : slices_Concat_FoldLeaf F a0 = some r) : ACall Try.prog 70 [.d (.sl 1 (a0.map (cL 4 cS_FoldLeaf)))] [] (.own 108 4 (r.map cS_FoldLeaf)) [] := by
  rw [slices_Concat_FoldLeaf] at h
  refine ACall.intro (N := 36) Try.func70 rfl rfl rfl rfl rfl fun e => ?_
  refine T_region [] [0] [] [(0, .d (.sl 1 (a0.map (cL 4 cS_FoldLeaf))))] [] 1 (by kernel_rfl) (trivial) ?_
  refine T_region [] [0, 3] [] [(0, .d (.sl 1 (a0.map (cL 4 cS_FoldLeaf)))), (3, dI (0 : Int))] [] 1 (by kernel_rfl) (trivial) ?_
  refine T_seqk ?_
  refine T_region [(1, { rw := some (dI (a0.length : Int)) })] [0, 3, 9, 10, 11] [] [(0, .d (.sl 1 (a0.map (cL 4 cS_FoldLeaf)))), (3, dI (0 : Int)), (9, .d (.sl 1 (a0.map (cL 4 cS_FoldLeaf)))), (10, dI (a0.length : Int)), (11, dI (0 : Int))] [(1, True ∧ dI ((a0.map (cL 4 cS_FoldLeaf)).length : Int) = dI (a0.length : Int))] 1 (by kernel_rfl) (len_ok (cL 4 cS_FoldLeaf)) ?_
  refine T_joinct h (fun (p : Int) => [(0, .d (.sl 1 (a0.map (cL 4 cS_FoldLeaf)))), (3, dI p)]) (fun s h => ?_) (fun v5 h => ?_)
  · refine T_co [.keep [0, 3, 9, 10, 11]] ((fun (p : Int × Int) => [(0, .d (.sl 1 (a0.map (cL 4 cS_FoldLeaf)))), (3, dI p.1), (9, .d (.sl 1 (a0.map (cL 4 cS_FoldLeaf)))), (10, dI (a0.length : Int)), (11, dI p.2)]) ((0 : Int), (0 : Int))) (by show _ = _; kernel_rfl) ?_
    refine T_block ?_
    refine T_loopF (ι := Int × Int) (fun (p : Int × Int) => [(0, .d (.sl 1 (a0.map (cL 4 cS_FoldLeaf)))), (3, dI p.1), (9, .d (.sl 1 (a0.map (cL 4 cS_FoldLeaf)))), (10, dI (a0.length : Int)), (11, dI p.2)]) (fun n p => slices_Concat_FoldLeaf_L0 F a0 n p.1 p.2 = some s) (fun i hh => by simp [slices_Concat_FoldLeaf_L0] at hh) (fun n p h => ?_) F ((0 : Int), (0 : Int)) h
    obtain ⟨v1, v2⟩ := p
    have h : slices_Concat_FoldLeaf_L0 F a0 (n + 1) v1 v2 = some s := h
    rw [slices_Concat_FoldLeaf_L0] at h
    refine T_region [] [0, 3, 9, 10, 11, 12] [] [(0, .d (.sl 1 (a0.map (cL 4 cS_FoldLeaf)))), (3, dI v1), (9, .d (.sl 1 (a0.map (cL 4 cS_FoldLeaf)))), (10, dI (a0.length : Int)), (11, dI v2), (12, dB (decide (v2 < (a0.length : Int))))] [] 1 (by kernel_rfl) (trivial) ?_
    refine T_seqk ?_
    refine T_cond (decide (v2 < (a0.length : Int))) (by kernel_rfl) (fun hc => ?_) (fun hc => ?_)
    · have h := cond_tt hc h
      refine T_skip fun a w hm => then_norm (((?_ : T Try.prog e 36 _ _ _) a w hm))
      refine T_seqk ?_
      refine T_block ?_
      obtain ⟨hp1, h⟩ := chk_ok h
      refine T_region [(0, { cs := (cL 4 cS_FoldLeaf) (a0.getD v2.toNat []) })] [0, 3, 5, 9, 10, 11] [] [(0, .d (.sl 1 (a0.map (cL 4 cS_FoldLeaf)))), (3, dI v1), (5, .d (.sl 4 ((a0.getD v2.toNat []).map cS_FoldLeaf))), (9, .d (.sl 1 (a0.map (cL 4 cS_FoldLeaf)))), (10, dI (a0.length : Int)), (11, dI v2)] [(0, 0 ≤ v2 ∧ (a0.map (cL 4 cS_FoldLeaf))[v2.toNat]? = some ((cL 4 cS_FoldLeaf) (a0.getD v2.toNat [])))] 2 (by kernel_rfl) (idx_ok (d := []) (cL 4 cS_FoldLeaf) hp1) ?_
      refine T_region [(2, { rw := some (dI ((a0.getD v2.toNat []).length : Int)) })] [0, 3, 9, 10, 11] [] [(0, .d (.sl 1 (a0.map (cL 4 cS_FoldLeaf)))), (3, dI (IntKind.i64.wrap (v1 + ((a0.getD v2.toNat []).length : Int)))), (9, .d (.sl 1 (a0.map (cL 4 cS_FoldLeaf)))), (10, dI (a0.length : Int)), (11, dI v2)] [(2, True ∧ dI (((a0.getD v2.toNat []).map cS_FoldLeaf).length : Int) = dI ((a0.getD v2.toNat []).length : Int))] 2 (by kernel_rfl) (len_ok cS_FoldLeaf) ?_
      refine T_region [] [0, 3, 9, 10, 11, 20] [] [(0, .d (.sl 1 (a0.map (cL 4 cS_FoldLeaf)))), (3, dI (IntKind.i64.wrap (v1 + ((a0.getD v2.toNat []).length : Int)))), (9, .d (.sl 1 (a0.map (cL 4 cS_FoldLeaf)))), (10, dI (a0.length : Int)), (11, dI v2), (20, dB (decide ((IntKind.i64.wrap (v1 + ((a0.getD v2.toNat []).length : Int))) < (0 : Int))))] [] 2 (by kernel_rfl) (trivial) ?_
      refine T_cond (decide ((IntKind.i64.wrap (v1 + ((a0.getD v2.toNat []).length : Int))) < (0 : Int))) (by kernel_rfl) (fun hc => ?_) (fun hc => ?_)
      · have h := cond_tt hc h
        cases h
      · have h := cond_ff hc h
        refine T_skip fun a w hm => inBlock_norm (then_norm (((?_ : T Try.prog e 36 _ _ _) a w hm)))
        refine T_region_end [] [0, 3, 9, 10, 11] [] [(0, .d (.sl 1 (a0.map (cL 4 cS_FoldLeaf)))), (3, dI (IntKind.i64.wrap (v1 + ((a0.getD v2.toNat []).length : Int)))), (9, .d (.sl 1 (a0.map (cL 4 cS_FoldLeaf)))), (10, dI (a0.length : Int)), (11, dI (IntKind.i64.wrap (v2 + (1 : Int))))] [] 2 (by kernel_rfl) (trivial) fun a w hm => then_norm (⟨(IntKind.i64.wrap (v1 + ((a0.getD v2.toNat []).length : Int)), IntKind.i64.wrap (v2 + (1 : Int))), h, hm.co (cs := [.keep [0, 3, 9, 10, 11]]) (by show _ = _; kernel_rfl)⟩)
    · have h := cond_ff hc h
      obtain hs := Option.some.inj h; subst hs
      refine T_exit fun a w hm => then_exit (then_exit (inBlock_exit (then_norm (hm.co (cs := [.keep [0, 3]]) (by show _ = _; kernel_rfl)))))
  · skip
    refine fun a w hm => then_norm (((?_ : T Try.prog e 36 _ _ _) a w hm))
    obtain ⟨y1, hy1, h⟩ := call_ok h
    refine T_region [(1, { res := oW3 y1 })] [0, 6] [] [(0, .d (.sl 1 (a0.map (cL 4 cS_FoldLeaf)))), (6, oW3 y1)] [(1, ACall Try.prog 72 [.d (.v (.slice none 0 0)), dI v5] [] (oW3 y1) [])] 1 (by kernel_rfl) (slices_Grow_FoldLeaf_ok hy1) ?_
    refine T_seqk ?_
    refine T_region [(1, { rw := some (dI (a0.length : Int)) })] [6, 25, 26, 27] [] [(6, oW3 y1), (25, .d (.sl 1 (a0.map (cL 4 cS_FoldLeaf)))), (26, dI (a0.length : Int)), (27, dI (0 : Int))] [(1, True ∧ dI ((a0.map (cL 4 cS_FoldLeaf)).length : Int) = dI (a0.length : Int))] 1 (by kernel_rfl) (len_ok (cL 4 cS_FoldLeaf)) ?_
    refine T_joinct h (fun (p : (List S_FoldLeaf)) => [(6, oW3 p)]) (fun s h => ?_) (fun v6 h => ?_)
    · refine T_co [.keep [6, 25, 26, 27]] ((fun (p : (List S_FoldLeaf) × Int) => [(6, oW3 p.1), (25, .d (.sl 1 (a0.map (cL 4 cS_FoldLeaf)))), (26, dI (a0.length : Int)), (27, dI p.2)]) (y1, (0 : Int))) (by show _ = _; kernel_rfl) ?_
      refine T_block ?_
      refine T_loopF (ι := (List S_FoldLeaf) × Int) (fun (p : (List S_FoldLeaf) × Int) => [(6, oW3 p.1), (25, .d (.sl 1 (a0.map (cL 4 cS_FoldLeaf)))), (26, dI (a0.length : Int)), (27, dI p.2)]) (fun n p => slices_Concat_FoldLeaf_L2 F a0 n p.1 p.2 = some s) (fun i hh => by simp [slices_Concat_FoldLeaf_L2] at hh) (fun n p h => ?_) F (y1, (0 : Int)) h
      obtain ⟨v3, v4⟩ := p
      have h : slices_Concat_FoldLeaf_L2 F a0 (n + 1) v3 v4 = some s := h
      rw [slices_Concat_FoldLeaf_L2] at h
      refine T_region [] [6, 25, 26, 27, 28] [] [(6, oW3 v3), (25, .d (.sl 1 (a0.map (cL 4 cS_FoldLeaf)))), (26, dI (a0.length : Int)), (27, dI v4), (28, dB (decide (v4 < (a0.length : Int))))] [] 1 (by kernel_rfl) (trivial) ?_
      refine T_seqk ?_
      refine T_cond (decide (v4 < (a0.length : Int))) (by kernel_rfl) (fun hc => ?_) (fun hc => ?_)
      · have h := cond_tt hc h
        refine T_skip fun a w hm => then_norm (((?_ : T Try.prog e 36 _ _ _) a w hm))
        refine T_seqk ?_
        refine T_block ?_
        obtain ⟨hp2, h⟩ := chk_ok h
        refine T_region [(0, { cs := (cL 4 cS_FoldLeaf) (a0.getD v4.toNat []) })] [6, 8, 25, 26, 27] [] [(6, oW3 v3), (8, .d (.sl 4 ((a0.getD v4.toNat []).map cS_FoldLeaf))), (25, .d (.sl 1 (a0.map (cL 4 cS_FoldLeaf)))), (26, dI (a0.length : Int)), (27, dI v4)] [(0, 0 ≤ v4 ∧ (a0.map (cL 4 cS_FoldLeaf))[v4.toNat]? = some ((cL 4 cS_FoldLeaf) (a0.getD v4.toNat [])))] 2 (by kernel_rfl) (idx_ok (d := []) (cL 4 cS_FoldLeaf) hp2) ?_
        obtain ⟨hp3, h⟩ := chk_ok h
        refine T_region_end [(2, { es := some ((v3 ++ (a0.getD v4.toNat [])).map cS_FoldLeaf) })] [6, 25, 26, 27] [] [(6, .own 108 4 ((v3 ++ (a0.getD v4.toNat [])).map cS_FoldLeaf)), (25, .d (.sl 1 (a0.map (cL 4 cS_FoldLeaf)))), (26, dI (a0.length : Int)), (27, dI v4)] [(2, (v3.map cS_FoldLeaf).length + ((a0.getD v4.toNat []).map cS_FoldLeaf).length ≤ 4294967296 ∧ (v3.map cS_FoldLeaf) ++ ((a0.getD v4.toNat []).map cS_FoldLeaf) = ((v3 ++ (a0.getD v4.toNat [])).map cS_FoldLeaf))] 1 (by kernel_rfl) (app_ok cS_FoldLeaf hp3) fun a w hm => inBlock_norm (then_norm (((?_ : T Try.prog e 36 _ _ _) a w hm)))
        refine T_region_end [] [6, 25, 26, 27] [] [(6, .own 108 4 ((v3 ++ (a0.getD v4.toNat [])).map cS_FoldLeaf)), (25, .d (.sl 1 (a0.map (cL 4 cS_FoldLeaf)))), (26, dI (a0.length : Int)), (27, dI (IntKind.i64.wrap (v4 + (1 : Int))))] [] 2 (by kernel_rfl) (trivial) fun a w hm => then_norm (⟨((v3 ++ (a0.getD v4.toNat [])), IntKind.i64.wrap (v4 + (1 : Int))), h, hm.co (cs := [.keep [6, 25, 26, 27]]) (by show _ = _; kernel_rfl)⟩)
      · have h := cond_ff hc h
        obtain hs := Option.some.inj h; subst hs
        refine T_exit fun a w hm => then_exit (then_exit (inBlock_exit (then_norm (hm.co (cs := [.keep [6]]) (by show _ = _; kernel_rfl)))))
    · skip
      refine fun a w hm => then_norm (((?_ : T Try.prog e 36 _ _ _) a w hm))
      refine T_region [] [2, 6] [] [(2, .vw (6, 0)), (6, oW3 v6)] [] 2 (by kernel_rfl) (trivial) ?_
      obtain hs := Option.some.inj h; subst hs
      refine T_ret fun a w hm => T_return (fr' := [(2, oW3 v6)]) [2] (by kernel_rfl) [.claim 2, .keep [2]] (by kernel_rfl) (by kernel_rfl) (by kernel_rfl) (by show _ = _; kernel_rfl) (by exact trivial) a w hm

end Go.Vm.BinG
