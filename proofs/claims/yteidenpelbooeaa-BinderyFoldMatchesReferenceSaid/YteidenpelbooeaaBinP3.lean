import Derived.Test.YteidenpelbooeaaBinP2
namespace Go.Vm.BinG
open Go.Proofs
set_option maxRecDepth 20000
theorem ref3_LayoutError_ok {F : Nat} {a0 : S_ImposeLayout} {r : Int} (h : ref3_LayoutError F a0 = some r) : ACall Try.prog 10 [.agg (cS_ImposeLayout a0)] [] (.d (.v (.int .i64 r))) [] := by
  rw [ref3_LayoutError] at h
  refine ACall.intro (N := 117) Try.func10 rfl rfl rfl rfl rfl fun e => ?_
  refine T_reg [] [1] [(1,bx_ImposeLayout a0)] [] 2 (by kernel_rfl) (trivial) ?_
  obtain ⟨y1,hy1,h⟩ := call_ok h
  refine T_reg [(2,{ res := .tup [oW3 y1.1,dI y1.2] })] [1,3,4] [(3,oW3 y1.1),(4,dI y1.2)] [(2,ACall Try.prog 14 [.agg (cS_FoldScheme a0.f0)] [] (.tup [oW3 y1.1,dI y1.2]) [])] 5 (by kernel_rfl) (ref3_Read_ok hy1) ?_
  refine T_seqk ?_
  refine T_reg [] [1,3,4,15] [(15,dB (y1.2 != (0 : Int)))] [] 2 (by kernel_rfl) (trivial) ?_
  refine T_cond (y1.2 != (0 : Int)) (by kernel_rfl) (fun hc => ?_) (fun hc => ?_)
  · have h := cond_tt hc h
    refine T_reg [] [2] [(2,dI y1.2)] [] 2 (by kernel_rfl) (trivial) ?_
    obtain hs := Option.some.inj h; subst hs
    refine T_ret fun a w hm => then_ret (T_return (fr' := [(2,dI y1.2)]) [2] (by kernel_rfl) [.keep [2]] (by kernel_rfl) (by kernel_rfl) (by kernel_rfl) (by show _ = _; kernel_rfl) (by exact trivial) a w hm)
  · have h := cond_ff hc h
    refine T_skip fun a w hm => then_norm (((?_ : T Try.prog e 117 _ _ _) a w hm))
    refine T_reg [(1,{ rw := some (dI (y1.1.length : Int)) })] [1,5] [(5,dI (IntKind.i64.wrap ((y1.1.length : Int).tdiv (2 : Int))))] [(1,True ∧ dI ((y1.1.map cS_FoldPage).length : Int) = dI (y1.1.length : Int)),(0,(2 : Int) ≠ 0)] 1 (by kernel_rfl) (⟨len_ok cS_FoldPage,(show (2 : Int) ≠ 0 by decide)⟩) ?_
    refine T_seqk ?_
    refine T_block ?_
    obtain ⟨z1,hz1,h⟩ := lett_ok h
    refine T_reg [(12,{ rw := some (dB z1) })] [1,5,20] [(20,dB (bif z1 then true else (decide (a0.f2 > (256 : Int)))))] [(4,((((decide (a0.f1 < (1 : Int))) == false) && true) = true → True)),(0,((((decide (a0.f1 < (1 : Int))) == false) && true) = true → True)),(0,((((decide (a0.f1 < (1 : Int))) == false) && true) = true → True)),(2,((((bif (decide (a0.f1 < (1 : Int))) then true else (decide (a0.f1 > (256 : Int)))) == false) && true) = true → True)),(0,((((bif (decide (a0.f1 < (1 : Int))) then true else (decide (a0.f1 > (256 : Int)))) == false) && true) = true → True)),(0,((((bif (decide (a0.f1 < (1 : Int))) then true else (decide (a0.f1 > (256 : Int)))) == false) && true) = true → True)),(0,(True) ∧ dB (bif (bif (decide (a0.f1 < (1 : Int))) then true else (decide (a0.f1 > (256 : Int)))) then true else (decide (a0.f2 < (1 : Int)))) = dB z1),(1,(((z1 == false) && true) = true → True)),(0,(((z1 == false) && true) = true → True)),(0,(((z1 == false) && true) = true → True))] 2 (by kernel_rfl) (⟨(fun hg => trivial),(fun hg => trivial),(fun hg => trivial),(fun hg => trivial),(fun hg => trivial),(fun hg => trivial),⟨trivial,(by subst hz1; rfl)⟩,(fun hg => trivial),(fun hg => trivial),(fun hg => trivial)⟩) ?_
    refine T_cond (bif z1 then true else (decide (a0.f2 > (256 : Int)))) (by kernel_rfl) (fun hc => ?_) (fun hc => ?_)
    · have h := cond_tt hc h
      refine T_reg [] [2] [(2,dI (3 : Int))] [] 1 (by kernel_rfl) (trivial) ?_
      obtain hs := Option.some.inj h; subst hs
      refine T_ret fun a w hm => inBlock_ret (then_ret (T_return (fr' := [(2,dI (3 : Int))]) [2] (by kernel_rfl) [.keep [2]] (by kernel_rfl) (by kernel_rfl) (by kernel_rfl) (by show _ = _; kernel_rfl) (by exact trivial) a w hm))
    · have h := cond_ff hc h
      obtain ⟨z2,hz2,h⟩ := lett_ok h
      obtain ⟨z3,hz3,h⟩ := lett_ok h
      obtain ⟨z4,hz4,h⟩ := lett_ok h
      refine T_reg [(12,{ rw := some (dB z2) }),(22,{ rw := some (dB z3) }),(32,{ rw := some (dB z4) })] [1,5,39] [(39,dB (bif z4 then true else (decide (a0.f6 > (64 : Int)))))] [(4,((((decide (a0.f3 < (0 : Int))) == false) && true) = true → True)),(0,((((decide (a0.f3 < (0 : Int))) == false) && true) = true → True)),(0,((((decide (a0.f3 < (0 : Int))) == false) && true) = true → True)),(2,((((bif (decide (a0.f3 < (0 : Int))) then true else (decide (a0.f4 < (0 : Int)))) == false) && true) = true → True)),(0,((((bif (decide (a0.f3 < (0 : Int))) then true else (decide (a0.f4 < (0 : Int)))) == false) && true) = true → True)),(0,((((bif (decide (a0.f3 < (0 : Int))) then true else (decide (a0.f4 < (0 : Int)))) == false) && true) = true → True)),(0,(True) ∧ dB (bif (bif (decide (a0.f3 < (0 : Int))) then true else (decide (a0.f4 < (0 : Int)))) then true else (decide (a0.f5 < (0 : Int)))) = dB z2),(1,(((z2 == false) && true) = true → True)),(0,(((z2 == false) && true) = true → True)),(0,(((z2 == false) && true) = true → True)),(2,((((bif z2 then true else (decide (a0.f6 < (0 : Int)))) == false) && true) = true → True)),(0,((((bif z2 then true else (decide (a0.f6 < (0 : Int)))) == false) && true) = true → True)),(0,((((bif z2 then true else (decide (a0.f6 < (0 : Int)))) == false) && true) = true → True)),(0,(True) ∧ dB (bif (bif z2 then true else (decide (a0.f6 < (0 : Int)))) then true else (decide (a0.f3 > (64 : Int)))) = dB z3),(1,(((z3 == false) && true) = true → True)),(0,(((z3 == false) && true) = true → True)),(0,(((z3 == false) && true) = true → True)),(2,((((bif z3 then true else (decide (a0.f4 > (64 : Int)))) == false) && true) = true → True)),(0,((((bif z3 then true else (decide (a0.f4 > (64 : Int)))) == false) && true) = true → True)),(0,((((bif z3 then true else (decide (a0.f4 > (64 : Int)))) == false) && true) = true → True)),(0,(True) ∧ dB (bif (bif z3 then true else (decide (a0.f4 > (64 : Int)))) then true else (decide (a0.f5 > (64 : Int)))) = dB z4),(1,(((z4 == false) && true) = true → True)),(0,(((z4 == false) && true) = true → True)),(0,(((z4 == false) && true) = true → True))] 2 (by kernel_rfl) (⟨(fun hg => trivial),(fun hg => trivial),(fun hg => trivial),(fun hg => trivial),(fun hg => trivial),(fun hg => trivial),⟨trivial,(by subst hz2; rfl)⟩,(fun hg => trivial),(fun hg => trivial),(fun hg => trivial),(fun hg => trivial),(fun hg => trivial),(fun hg => trivial),⟨trivial,(by subst hz3; rfl)⟩,(fun hg => trivial),(fun hg => trivial),(fun hg => trivial),(fun hg => trivial),(fun hg => trivial),(fun hg => trivial),⟨trivial,(by subst hz4; rfl)⟩,(fun hg => trivial),(fun hg => trivial),(fun hg => trivial)⟩) ?_
      refine T_cond (bif z4 then true else (decide (a0.f6 > (64 : Int)))) (by kernel_rfl) (fun hc => ?_) (fun hc => ?_)
      · have h := cond_tt hc h
        refine T_reg [] [2] [(2,dI (3 : Int))] [] 1 (by kernel_rfl) (trivial) ?_
        obtain hs := Option.some.inj h; subst hs
        refine T_ret fun a w hm => inBlock_ret (then_ret (T_return (fr' := [(2,dI (3 : Int))]) [2] (by kernel_rfl) [.keep [2]] (by kernel_rfl) (by kernel_rfl) (by kernel_rfl) (by show _ = _; kernel_rfl) (by exact trivial) a w hm))
      · have h := cond_ff hc h
        refine T_reg [] [1,5,78] [(78,dB (bif (decide (a0.f7 < (0 : Int))) then true else (decide (a0.f7 > (8 : Int)))))] [(4,((((decide (a0.f7 < (0 : Int))) == false) && true) = true → True)),(0,((((decide (a0.f7 < (0 : Int))) == false) && true) = true → True)),(0,((((decide (a0.f7 < (0 : Int))) == false) && true) = true → True))] 2 (by kernel_rfl) (⟨(fun hg => trivial),(fun hg => trivial),(fun hg => trivial)⟩) ?_
        refine T_cond (bif (decide (a0.f7 < (0 : Int))) then true else (decide (a0.f7 > (8 : Int)))) (by kernel_rfl) (fun hc => ?_) (fun hc => ?_)
        · have h := cond_tt hc h
          refine T_reg [] [2] [(2,dI (3 : Int))] [] 1 (by kernel_rfl) (trivial) ?_
          obtain hs := Option.some.inj h; subst hs
          refine T_ret fun a w hm => inBlock_ret (then_ret (T_return (fr' := [(2,dI (3 : Int))]) [2] (by kernel_rfl) [.keep [2]] (by kernel_rfl) (by kernel_rfl) (by kernel_rfl) (by show _ = _; kernel_rfl) (by exact trivial) a w hm))
        · have h := cond_ff hc h
          refine T_reg [] [1,5,87] [(87,dB (bif (decide (a0.f8 < (0 : Int))) then true else (decide (a0.f8 > (2 : Int)))))] [(4,((((decide (a0.f8 < (0 : Int))) == false) && true) = true → True)),(0,((((decide (a0.f8 < (0 : Int))) == false) && true) = true → True)),(0,((((decide (a0.f8 < (0 : Int))) == false) && true) = true → True))] 2 (by kernel_rfl) (⟨(fun hg => trivial),(fun hg => trivial),(fun hg => trivial)⟩) ?_
          refine T_cond (bif (decide (a0.f8 < (0 : Int))) then true else (decide (a0.f8 > (2 : Int)))) (by kernel_rfl) (fun hc => ?_) (fun hc => ?_)
          · have h := cond_tt hc h
            refine T_reg [] [2] [(2,dI (14 : Int))] [] 1 (by kernel_rfl) (trivial) ?_
            obtain hs := Option.some.inj h; subst hs
            refine T_ret fun a w hm => inBlock_ret (then_ret (T_return (fr' := [(2,dI (14 : Int))]) [2] (by kernel_rfl) [.keep [2]] (by kernel_rfl) (by kernel_rfl) (by kernel_rfl) (by show _ = _; kernel_rfl) (by exact trivial) a w hm))
          · have h := cond_ff hc h
            obtain ⟨z5,hz5,h⟩ := lett_ok h
            refine T_reg [(4,{ rw := some (dI z5) })] [1,96] [(96,dB (decide ((IntKind.i64.wrap (a0.f7 * z5)) > a0.f5)))] [(4,((2 : Int) ≠ 0) ∧ dI (IntKind.i64.wrap ((IntKind.i64.wrap ((IntKind.i64.wrap ((y1.1.length : Int).tdiv (2 : Int))) - (1 : Int))).tdiv (2 : Int))) = dI z5)] 5 (by kernel_rfl) (⟨(show (2 : Int) ≠ 0 by decide),(by subst hz5; rfl)⟩) ?_
            refine T_cond (decide ((IntKind.i64.wrap (a0.f7 * z5)) > a0.f5)) (by kernel_rfl) (fun hc => ?_) (fun hc => ?_)
            · have h := cond_tt hc h
              refine T_reg [] [2] [(2,dI (19 : Int))] [] 1 (by kernel_rfl) (trivial) ?_
              obtain hs := Option.some.inj h; subst hs
              refine T_ret fun a w hm => inBlock_ret (then_ret (T_return (fr' := [(2,dI (19 : Int))]) [2] (by kernel_rfl) [.keep [2]] (by kernel_rfl) (by kernel_rfl) (by kernel_rfl) (by show _ = _; kernel_rfl) (by exact trivial) a w hm))
            · have h := cond_ff hc h
              refine T_skip fun a w hm => inBlock_norm (then_norm (((?_ : T Try.prog e 117 _ _ _) a w hm)))
              obtain ⟨y2,hy2,h⟩ := call_ok h
              refine T_reg [(1,{ res := .tup [dI y2.1,dI y2.2] })] [6,7] [(6,dI y2.1),(7,dI y2.2)] [(1,ACall Try.prog 18 [.agg (cS_ImposeLayout a0)] [] (.tup [dI y2.1,dI y2.2]) [])] 5 (by kernel_rfl) (ref3_PlateSize_ok hy2) ?_
              refine T_seqk ?_
              refine T_reg [] [116] [(116,dB (bif (decide (y2.1 > (1024 : Int))) then true else (decide (y2.2 > (1024 : Int)))))] [(3,((((decide (y2.1 > (1024 : Int))) == false) && true) = true → True)),(0,((((decide (y2.1 > (1024 : Int))) == false) && true) = true → True))] 1 (by kernel_rfl) (⟨(fun hg => trivial),(fun hg => trivial)⟩) ?_
              refine T_cond (bif (decide (y2.1 > (1024 : Int))) then true else (decide (y2.2 > (1024 : Int)))) (by kernel_rfl) (fun hc => ?_) (fun hc => ?_)
              · have h := cond_tt hc h
                refine T_reg [] [2] [(2,dI (2 : Int))] [] 1 (by kernel_rfl) (trivial) ?_
                obtain hs := Option.some.inj h; subst hs
                refine T_ret fun a w hm => then_ret (T_return (fr' := [(2,dI (2 : Int))]) [2] (by kernel_rfl) [.keep [2]] (by kernel_rfl) (by kernel_rfl) (by kernel_rfl) (by show _ = _; kernel_rfl) (by exact trivial) a w hm)
              · have h := cond_ff hc h
                refine T_skip fun a w hm => then_norm (((?_ : T Try.prog e 117 _ _ _) a w hm))
                refine T_reg [] [2] [(2,dI (0 : Int))] [] 1 (by kernel_rfl) (trivial) ?_
                obtain hs := Option.some.inj h; subst hs
                refine T_ret fun a w hm => T_return (fr' := [(2,dI (0 : Int))]) [2] (by kernel_rfl) [.keep [2]] (by kernel_rfl) (by kernel_rfl) (by kernel_rfl) (by show _ = _; kernel_rfl) (by exact trivial) a w hm
theorem law3_dots_ok {F : Nat} {a0 : Int} {a1 : Int} {a2 : Int} {r : S_Plate} (h : law3_dots F a0 a1 a2 = some r) : ACall Try.prog 7 [.d (.v (.int .i64 a0)),.d (.v (.int .i64 a1)),.d (.v (.int .i64 a2))] [] (.agg (cS_Plate r)) [] := by
  rw [law3_dots] at h
  refine ACall.intro (N := 34) Try.func7 rfl rfl rfl rfl rfl fun e => ?_
  refine T_reg [] [0,1,2,6] [(6,.box [dI 0,dI 0,oW6 []])] [] 1 (by kernel_rfl) (trivial) ?_
  refine T_region [(2,{ take := [0] })] [0,1,2,6,7] [.nilc 7 2 5 1,.keep [0,1,2,6,7]] [(0,dI a0),(1,dI a1),(2,dI a2),(6,.box [dI 0,dI 0,oW6 []]),(7,.box [dI a0,dI a1,oW6 []])] [] 5 (by kernel_rfl) (trivial) ?_
  refine T_seqk ?_
  refine T_reg [] [2,6,7,14,15] [(14,dI (IntKind.i64.wrap (a0 * a1))),(15,dI (0 : Int))] [] 4 (by kernel_rfl) (trivial) ?_
  refine T_joinct h (fun (p : (List UInt8)) => [(6,.box [dI 0,dI 0,oW6 []]),(7,.box [dI a0,dI a1,oW6 p])]) (fun s h => ?_) (fun v3 h => ?_)
  · refine T_co [.keep [2,6,7,14,15]] ((fun (p : (List UInt8) × Int) => [(2,dI a2),(6,.box [dI 0,dI 0,oW6 []]),(7,.box [dI a0,dI a1,oW6 p.1]),(14,dI (IntKind.i64.wrap (a0 * a1))),(15,dI p.2)]) ([],(0 : Int))) (by show _ = _; kernel_rfl) ?_
    refine T_block ?_
    refine T_loopF (ι := (List UInt8) × Int) (fun (p : (List UInt8) × Int) => [(2,dI a2),(6,.box [dI 0,dI 0,oW6 []]),(7,.box [dI a0,dI a1,oW6 p.1]),(14,dI (IntKind.i64.wrap (a0 * a1))),(15,dI p.2)]) (fun n p => law3_dots_L0 F a0 a1 a2 n p.1 p.2 = some s) (fun i hh => by simp [law3_dots_L0] at hh) (fun n p h => ?_) F ([],(0 : Int)) h
    obtain ⟨v1,v2⟩ := p
    have h : law3_dots_L0 F a0 a1 a2 (n + 1) v1 v2 = some s := h
    rw [law3_dots_L0] at h
    refine T_reg [] [2,6,7,14,15,16] [(16,dB (decide (v2 < (IntKind.i64.wrap (a0 * a1)))))] [] 1 (by kernel_rfl) (trivial) ?_
    refine T_seqk ?_
    refine T_cond (decide (v2 < (IntKind.i64.wrap (a0 * a1)))) (by kernel_rfl) (fun hc => ?_) (fun hc => ?_)
    · have h := cond_tt hc h
      refine T_skip fun a w hm => then_norm (((?_ : T Try.prog e 34 _ _ _) a w hm))
      refine T_seqk ?_
      refine T_block ?_
      refine T_reg [] [2,6,7,8,14,15] [(8,dI v2)] [] 2 (by kernel_rfl) (trivial) ?_
      obtain ⟨z1,hz1,h⟩ := lett_ok h
      obtain ⟨hp1,h⟩ := chk_ok h
      obtain ⟨hp2,h⟩ := chk_ok h
      refine T_reg_end [(9,{ rw := some (dI z1) }),(11,{ es := some (([(UInt8.ofNat (IntKind.u8.wrap z1).toNat)]).map cU) }),(12,{ es := some ((v1 ++ ([(UInt8.ofNat (IntKind.u8.wrap z1).toNat)])).map cU) })] [2,6,7,14,15] [(7,.box [dI a0,dI a1,.own 5 1 ((v1 ++ ([(UInt8.ofNat (IntKind.u8.wrap z1).toNat)])).map cU)])] [(9,(True) ∧ dI (IntKind.i64.wrap ((IntKind.i64.wrap (a2 + (IntKind.i64.wrap (v2 * (7 : Int))))) + (IntKind.i64.wrap (v2 * v2)))) = dI z1),(1,[[Dat.v (.int .u8 (IntKind.u8.wrap z1))]] = (([(UInt8.ofNat (IntKind.u8.wrap z1).toNat)]).map cU)),(0,(v1.map cU).length + (([(UInt8.ofNat (IntKind.u8.wrap z1).toNat)]).map cU).length ≤ 4294967296 ∧ (v1.map cU) ++ (([(UInt8.ofNat (IntKind.u8.wrap z1).toNat)]).map cU) = ((v1 ++ ([(UInt8.ofNat (IntKind.u8.wrap z1).toNat)])).map cU))] 2 (by kernel_rfl) (⟨⟨trivial,(by subst hz1; rfl)⟩,(lit_u hp1 (rfl : ([] : List (List Dat)) = ([] : List UInt8).map cU)),app_ok cU hp2⟩) fun a w hm => inBlock_norm (then_norm (((?_ : T Try.prog e 34 _ _ _) a w hm)))
      refine T_reg_end [] [2,6,7,14,15] [(15,dI (IntKind.i64.wrap (v2 + (1 : Int))))] [] 2 (by kernel_rfl) (trivial) fun a w hm => then_norm (⟨((v1 ++ ([(UInt8.ofNat (IntKind.u8.wrap z1).toNat)])),IntKind.i64.wrap (v2 + (1 : Int))),h,hm.co (cs := [.keep [2,6,7,14,15]]) (by show _ = _; kernel_rfl)⟩)
    · have h := cond_ff hc h
      obtain hs := Option.some.inj h; subst hs
      refine T_exit fun a w hm => then_exit (then_exit (inBlock_exit (then_norm (hm.co (cs := [.keep [6,7]]) (by show _ = _; kernel_rfl)))))
  · skip
    refine fun a w hm => then_norm (((?_ : T Try.prog e 34 _ _ _) a w hm))
    refine T_reg [(0,{ frz := [(7,3)] })] [6] [(6,.box [dI a0,dI a1,.d (.sl 1 (v3.map cU))])] [] 2 (by kernel_rfl) (trivial) ?_
    obtain hs := Option.some.inj h; subst hs
    refine T_ret fun a w hm => T_returnC (fr' := [(6,.box [dI a0,dI a1,.d (.sl 1 (v3.map cU))])]) (ts := [34]) (N' := 35) (fr2 := [(34,.agg (cS_Plate (S_Plate.mk a0 a1 v3)))] ++ [(6,.box [dI a0,dI a1,.d (.sl 1 (v3.map cU))])]) [.keep [6]] (by kernel_rfl) (by kernel_rfl) (by kernel_rfl) (by kernel_rfl) (by show _ = _; kernel_rfl) (by exact trivial) a w hm
theorem slices_Clone_uint8_ok {F : Nat} {a0 : List UInt8} {r : (List UInt8)} (h : slices_Clone_uint8 F a0 = some r) : ACall Try.prog 57 [.d (.sl 1 (a0.map cU))] [] (.own 5 1 (r.map cU)) [] := by
  rw [slices_Clone_uint8] at h
  refine ACall.intro (N := 8) Try.func57 rfl rfl rfl rfl rfl fun e => ?_
  refine T_reg [] [0] [] [] 1 (by kernel_rfl) (trivial) ?_
  refine T_seqk ?_
  refine T_nilTest (sz := 1) (es := (a0.map cU)) 0 3 4 22 (by kernel_rfl) (by kernel_rfl) (by kernel_rfl) (by kernel_rfl) [0] [(0,.d (.sl 1 (a0.map cU)))] (fun _ => by kernel_rfl) (fun hnil => ?_) ?_
  · replace hnil := List.map_eq_nil_iff.1 hnil
    have h : (some []) = some r := by subst hnil; exact h
    refine T_reg [] [2] [(2,oW6 [])] [] 1 (by kernel_rfl) (trivial) ?_
    obtain hs := Option.some.inj h; subst hs
    refine T_ret fun a w hm => then_ret (T_return (fr' := [(2,oW6 [])]) [2] (by kernel_rfl) [.keep [2]] (by kernel_rfl) (by kernel_rfl) (by kernel_rfl) (by show _ = _; kernel_rfl) (by exact trivial) a w hm)
  · skip
    refine T_skip fun a w hm => then_norm (((?_ : T Try.prog e 8 _ _ _) a w hm))
    obtain ⟨hp1,h⟩ := chk_ok h
    refine T_reg [(2,{ es := some ((([] : List UInt8) ++ a0).map cU) })] [2] [(2,.own 5 1 ((([] : List UInt8) ++ a0).map cU))] [(0,([] : List (List Dat)) = []),(1,(([] : List UInt8).map cU).length + (a0.map cU).length ≤ 4294967296 ∧ (([] : List UInt8).map cU) ++ (a0.map cU) = ((([] : List UInt8) ++ a0).map cU))] 1 (by kernel_rfl) (⟨rfl,app_ok cU hp1⟩) ?_
    obtain hs := Option.some.inj h; subst hs
    refine T_ret fun a w hm => T_return (fr' := [(2,.own 5 1 ((([] : List UInt8) ++ a0).map cU))]) [2] (by kernel_rfl) [.keep [2]] (by kernel_rfl) (by kernel_rfl) (by kernel_rfl) (by show _ = _; kernel_rfl) (by exact trivial) a w hm
theorem raster_Of_ok {F : Nat} {a0 : S_Plate} {r : S_Plate} (h : raster_Of F a0 = some r) : ACall Try.prog 37 [.agg (cS_Plate a0)] [] (.agg (cS_Plate r)) [] := by
  rw [raster_Of] at h
  refine ACall.intro (N := 11) Try.func37 rfl rfl rfl rfl rfl fun e => ?_
  refine T_reg [] [1,2] [(1,bx_Plate a0),(2,.box [dI 0,dI 0,oW6 []])] [] 2 (by kernel_rfl) (trivial) ?_
  obtain ⟨y1,hy1,h⟩ := call_ok h
  refine T_drawX mixed 12 (.take 0 (.take 2 (.take 4 (.all (.alt 1 (.all (.alt 3 (.all (.alt 5 (.all (.alt 6 (.all (.alt 7 (.all (.alt 8 .done .stop)) .stop)) .stop)) .stop)) (.alt 5 (.all (.alt 3 (.all (.alt 6 (.all (.alt 7 (.all (.alt 8 .done .stop)) .stop)) .stop)) (.alt 6 (.all (.alt 3 (.all (.alt 7 (.all (.alt 8 .done .stop)) .stop)) .stop)) .stop))) .stop))) (.alt 3 (.all (.alt 1 (.all (.alt 5 (.all (.alt 6 (.all (.alt 7 (.all (.alt 8 .done .stop)) .stop)) .stop)) .stop)) (.alt 5 (.all (.alt 1 (.all (.alt 6 (.all (.alt 7 (.all (.alt 8 .done .stop)) .stop)) .stop)) (.alt 6 (.all (.alt 1 (.all (.alt 7 (.all (.alt 8 .done .stop)) .stop)) .stop)) .stop))) .stop))) (.alt 5 (.all (.alt 1 (.all (.alt 3 (.all (.alt 6 (.all (.alt 7 (.all (.alt 8 .done .stop)) .stop)) .stop)) (.alt 6 (.all (.alt 3 (.all (.alt 7 (.all (.alt 8 .done .stop)) .stop)) .stop)) .stop))) (.alt 3 (.all (.alt 1 (.all (.alt 6 (.all (.alt 7 (.all (.alt 8 .done .stop)) .stop)) .stop)) (.alt 6 (.all (.alt 1 (.all (.alt 7 (.all (.alt 8 .done .stop)) .stop)) .stop)) .stop))) (.alt 6 (.all (.alt 1 (.all (.alt 3 (.all (.alt 7 (.all (.alt 8 .done .stop)) .stop)) .stop)) (.alt 3 (.all (.alt 1 (.all (.alt 7 (.all (.alt 8 .done .stop)) .stop)) .stop)) .stop))) .stop)))) .stop))))))) ([0,1,0,4,0,16,32,74,255],[0,1,0,4,0,16,32,74,128]) 21 [(6,{ res := oW6 y1 }),(7,{ frz := [(9,0)] })] [2] [] [(2,.box [dI a0.f0,dI a0.f1,.d (.sl 1 (y1.map cU))])] ((fun (o6 : Prop) => [(6,o6),(4,o6),(2,o6),(6,o6),(4,o6),(2,o6),(6,o6),(2,o6),(5,o6),(2,o6),(3,o6)]) (ACall Try.prog 57 [.d (.sl 1 (a0.f2.map cU))] [] (oW6 y1) [])) 8 (by kernel_rfl) (by kernel_rfl) (by kernel_rfl) (have p6 := slices_Clone_uint8_ok hy1; ⟨p6,p6,p6,p6,p6,p6,p6,p6,p6,p6,p6⟩) ?_
  obtain hs := Option.some.inj h; subst hs
  refine T_ret fun a w hm => T_returnC (fr' := [(2,.box [dI a0.f0,dI a0.f1,.d (.sl 1 (y1.map cU))])]) (ts := [11]) (N' := 12) (fr2 := [(11,.agg (cS_Plate (S_Plate.mk a0.f0 a0.f1 y1)))] ++ [(2,.box [dI a0.f0,dI a0.f1,.d (.sl 1 (y1.map cU))])]) [.keep [2]] (by kernel_rfl) (by kernel_rfl) (by kernel_rfl) (by kernel_rfl) (by show _ = _; kernel_rfl) (by exact trivial) a w hm
theorem raster_sized_ok {F : Nat} {a0 : Int} {a1 : Int} {r : Bool} (h : raster_sized F a0 a1 = some r) : ACall Try.prog 52 [.d (.v (.int .i64 a0)),.d (.v (.int .i64 a1))] [] (.d (.v (.bool r))) [] := by
  rw [raster_sized] at h
  refine ACall.intro (N := 19) Try.func52 rfl rfl rfl rfl rfl fun e => ?_
  refine T_reg [] [0,1] [] [] 1 (by kernel_rfl) (trivial) ?_
  obtain ⟨z1,hz1,h⟩ := lett_ok h
  refine T_reg [(9,{ rw := some (dB z1) })] [4] [(4,dB (bif z1 then (decide (a1 ≤ (1024 : Int))) else false))] [(3,((((decide (a0 ≥ (1 : Int))) == true) && true) = true → True)),(0,((((decide (a0 ≥ (1 : Int))) == true) && true) = true → True)),(2,((((bif (decide (a0 ≥ (1 : Int))) then (decide (a0 ≤ (1024 : Int))) else false) == true) && true) = true → True)),(0,((((bif (decide (a0 ≥ (1 : Int))) then (decide (a0 ≤ (1024 : Int))) else false) == true) && true) = true → True)),(0,(True) ∧ dB (bif (bif (decide (a0 ≥ (1 : Int))) then (decide (a0 ≤ (1024 : Int))) else false) then (decide (a1 ≥ (1 : Int))) else false) = dB z1),(1,(((z1 == true) && true) = true → True)),(0,(((z1 == true) && true) = true → True))] 2 (by kernel_rfl) (⟨(fun hg => trivial),(fun hg => trivial),(fun hg => trivial),(fun hg => trivial),⟨trivial,(by subst hz1; rfl)⟩,(fun hg => trivial),(fun hg => trivial)⟩) ?_
  obtain hs := Option.some.inj h; subst hs
  refine T_ret fun a w hm => T_return (fr' := [(4,dB (bif z1 then (decide (a1 ≤ (1024 : Int))) else false))]) [4] (by kernel_rfl) [.keep [4]] (by kernel_rfl) (by kernel_rfl) (by kernel_rfl) (by show _ = _; kernel_rfl) (by exact trivial) a w hm
theorem raster_Grid_uint8_Check_ok {F : Nat} {a0 : S_Plate} {r : Int} (h : raster_Grid_uint8_Check F a0 = some r) : ACall Try.prog 41 [.agg (cS_Plate a0)] [] (.d (.v (.int .i64 r))) [] := by
  rw [raster_Grid_uint8_Check] at h
  refine ACall.intro (N := 18) Try.func41 rfl rfl rfl rfl rfl fun e => ?_
  refine T_reg [] [1] [(1,bx_Plate a0)] [] 2 (by kernel_rfl) (trivial) ?_
  refine T_seqk ?_
  obtain ⟨y1,hy1,h⟩ := call_ok h
  refine T_reg [(4,{ res := dB y1 })] [1,8] [(8,dB (!y1))] [(4,ACall Try.prog 52 [dI a0.f0,dI a0.f1] [] (dB y1) [])] 1 (by kernel_rfl) (raster_sized_ok hy1) ?_
  refine T_cond (!y1) (by kernel_rfl) (fun hc => ?_) (fun hc => ?_)
  · have h := cond_tt hc h
    refine T_reg [] [2] [(2,dI (3 : Int))] [] 1 (by kernel_rfl) (trivial) ?_
    obtain hs := Option.some.inj h; subst hs
    refine T_ret fun a w hm => then_ret (T_return (fr' := [(2,dI (3 : Int))]) [2] (by kernel_rfl) [.keep [2]] (by kernel_rfl) (by kernel_rfl) (by kernel_rfl) (by show _ = _; kernel_rfl) (by exact trivial) a w hm)
  · have h := cond_ff hc h
    refine T_skip fun a w hm => then_norm (((?_ : T Try.prog e 18 _ _ _) a w hm))
    refine T_seqk ?_
    refine T_reg [(2,{ rw := some (dI (a0.f2.length : Int)) })] [17] [(17,dB ((a0.f2.length : Int) != (IntKind.i64.wrap (a0.f0 * a0.f1))))] [(2,True ∧ dI ((a0.f2.map cU).length : Int) = dI (a0.f2.length : Int))] 6 (by kernel_rfl) (len_ok cU) ?_
    refine T_cond ((a0.f2.length : Int) != (IntKind.i64.wrap (a0.f0 * a0.f1))) (by kernel_rfl) (fun hc => ?_) (fun hc => ?_)
    · have h := cond_tt hc h
      refine T_reg [] [2] [(2,dI (4 : Int))] [] 1 (by kernel_rfl) (trivial) ?_
      obtain hs := Option.some.inj h; subst hs
      refine T_ret fun a w hm => then_ret (T_return (fr' := [(2,dI (4 : Int))]) [2] (by kernel_rfl) [.keep [2]] (by kernel_rfl) (by kernel_rfl) (by kernel_rfl) (by show _ = _; kernel_rfl) (by exact trivial) a w hm)
    · have h := cond_ff hc h
      refine T_skip fun a w hm => then_norm (((?_ : T Try.prog e 18 _ _ _) a w hm))
      refine T_reg [] [2] [(2,dI (0 : Int))] [] 1 (by kernel_rfl) (trivial) ?_
      obtain hs := Option.some.inj h; subst hs
      refine T_ret fun a w hm => T_return (fr' := [(2,dI (0 : Int))]) [2] (by kernel_rfl) [.keep [2]] (by kernel_rfl) (by kernel_rfl) (by kernel_rfl) (by show _ = _; kernel_rfl) (by exact trivial) a w hm
theorem bindery_sides_ok {F : Nat} {a0 : S_Plate} {a1 : S_Plate} {r : Int} (h : bindery_sides F a0 a1 = some r) : ACall Try.prog 20 [.agg (cS_Plate a0),.agg (cS_Plate a1)] [] (.d (.v (.int .i64 r))) [] := by
  rw [bindery_sides] at h
  refine ACall.intro (N := 33) Try.func20 rfl rfl rfl rfl rfl fun e => ?_
  refine T_reg [] [2,3] [(2,bx_Plate a0),(3,bx_Plate a1)] [] 3 (by kernel_rfl) (trivial) ?_
  refine T_seqk ?_
  refine T_reg [] [2,3,10,11] [(10,.agg (cS_arr2_SPlate (S_arr2_SPlate.mk a0 a1))),(11,dI (0 : Int))] [] 4 (by kernel_rfl) (trivial) ?_
  refine T_joinEt h (fun (p : Unit) => [(2,bx_Plate a0),(3,bx_Plate a1)]) (fun s h hk1 => ?_) (fun s h => ?_)
  · refine T_co [.keep [2,3,10,11]] ((fun (p : Int) => [(2,bx_Plate a0),(3,bx_Plate a1),(10,.agg (cS_arr2_SPlate (S_arr2_SPlate.mk a0 a1))),(11,dI p)]) (0 : Int)) (by show _ = _; kernel_rfl) ?_
    refine T_block ?_
    refine T_loopF (ι := Int) (fun (p : Int) => [(2,bx_Plate a0),(3,bx_Plate a1),(10,.agg (cS_arr2_SPlate (S_arr2_SPlate.mk a0 a1))),(11,dI p)]) (fun n p => bindery_sides_L0 F a0 a1 n p = some s) (fun i hh => by simp [bindery_sides_L0] at hh) (fun n v1 h => ?_) F (0 : Int) h
    have h : bindery_sides_L0 F a0 a1 (n + 1) v1 = some s := h
    rw [bindery_sides_L0] at h
    refine T_reg [] [2,3,10,11,12] [(12,dB (decide (v1 < (2 : Int))))] [] 1 (by kernel_rfl) (trivial) ?_
    refine T_seqk ?_
    refine T_cond (decide (v1 < (2 : Int))) (by kernel_rfl) (fun hc => ?_) (fun hc => ?_)
    · have h := cond_tt hc h
      refine T_skip fun a w hm => then_norm (((?_ : T Try.prog e 33 _ _ _) a w hm))
      refine T_seqk ?_
      refine T_block ?_
      obtain ⟨hp1,h⟩ := chk_ok h
      refine T_reg [(0,{ cs := cS_Plate ([a0,a1].getD v1.toNat z_Plate) })] [2,3,6,10,11] [(6,.box [dI (([a0,a1].getD v1.toNat z_Plate).f0),dI (([a0,a1].getD v1.toNat z_Plate).f1),.d (.sl 1 ((([a0,a1].getD v1.toNat z_Plate).f2).map cU))])] [(0,(0 ≤ v1 ∧ v1 < 2) ∧ cS_Plate ([a0,a1].getD v1.toNat z_Plate) = ((cS_arr2_SPlate (S_arr2_SPlate.mk a0 a1)).drop (v1.toNat * 3)).take 3)] 2 (by kernel_rfl) (⟨hp1,arr_ok (d := z_Plate) cS_Plate 3 2 [a0,a1] rfl (fun _ => rfl) hp1 rfl⟩) ?_
      obtain ⟨y1,hy1,h⟩ := call_ok h
      obtain ⟨y2,hy2,h⟩ := call_ok h
      refine T_reg [(1,{ res := .agg (cS_Plate y1) }),(2,{ res := dI y2 })] [2,3,7,10,11] [(7,dI y2)] [(1,ACall Try.prog 37 [.agg (cS_Plate ([a0,a1].getD v1.toNat z_Plate))] [] (.agg (cS_Plate y1)) []),(0,ACall Try.prog 41 [.agg (cS_Plate y1)] [] (dI y2) [])] 1 (by kernel_rfl) (⟨raster_Of_ok hy1,raster_Grid_uint8_Check_ok hy2⟩) ?_
      refine T_reg [] [2,3,7,10,11,18] [(18,dB (y2 != (0 : Int)))] [] 2 (by kernel_rfl) (trivial) ?_
      refine T_cond (y2 != (0 : Int)) (by kernel_rfl) (fun hc => ?_) (fun hc => ?_)
      · have h := cond_tt hc h
        refine T_reg [] [4] [(4,dI y2)] [] 2 (by kernel_rfl) (trivial) ?_
        obtain hs := Option.some.inj h; subst hs
        have h := callE_esc hk1
        obtain hs := Option.some.inj h; subst hs
        refine T_ret fun a w hm => inBlock_ret (then_ret (then_ret (inBlock_ret (then_ret (then_ret (T_return (fr' := [(4,dI y2)]) [4] (by kernel_rfl) [.keep [4]] (by kernel_rfl) (by kernel_rfl) (by kernel_rfl) (by show _ = _; kernel_rfl) (by exact trivial) a w hm))))))
      · have h := cond_ff hc h
        refine T_skip fun a w hm => inBlock_norm (then_norm (((?_ : T Try.prog e 33 _ _ _) a w hm)))
        refine T_reg_end [] [2,3,10,11] [(11,dI (IntKind.i64.wrap (v1 + (1 : Int))))] [] 2 (by kernel_rfl) (trivial) fun a w hm => then_norm (⟨IntKind.i64.wrap (v1 + (1 : Int)),h,hm.co (cs := [.keep [2,3,10,11]]) (by show _ = _; kernel_rfl)⟩)
    · have h := cond_ff hc h
      obtain hs := Option.some.inj h; subst hs
      refine T_exit fun a w hm => then_exit (then_exit (inBlock_exit (then_norm (⟨_,rfl,hm.co (cs := [.keep [2,3]]) (by show _ = _; kernel_rfl)⟩))))
  · skip
    refine fun a w hm => then_norm (((?_ : T Try.prog e 33 _ _ _) a w hm))
    refine T_seqk ?_
    refine T_reg [] [32] [(32,dB (bif (a0.f0 != a1.f0) then true else (a0.f1 != a1.f1)))] [(6,((((a0.f0 != a1.f0) == false) && true) = true → True)),(0,((((a0.f0 != a1.f0) == false) && true) = true → True)),(0,((((a0.f0 != a1.f0) == false) && true) = true → True)),(0,((((a0.f0 != a1.f0) == false) && true) = true → True)),(0,((((a0.f0 != a1.f0) == false) && true) = true → True))] 1 (by kernel_rfl) (⟨(fun hg => trivial),(fun hg => trivial),(fun hg => trivial),(fun hg => trivial),(fun hg => trivial)⟩) ?_
    refine T_cond (bif (a0.f0 != a1.f0) then true else (a0.f1 != a1.f1)) (by kernel_rfl) (fun hc => ?_) (fun hc => ?_)
    · have h := cond_tt hc h
      refine T_reg [] [4] [(4,dI (19 : Int))] [] 1 (by kernel_rfl) (trivial) ?_
      obtain hs := Option.some.inj h; subst hs
      refine T_ret fun a w hm => then_ret (T_return (fr' := [(4,dI (19 : Int))]) [4] (by kernel_rfl) [.keep [4]] (by kernel_rfl) (by kernel_rfl) (by kernel_rfl) (by show _ = _; kernel_rfl) (by exact trivial) a w hm)
    · have h := cond_ff hc h
      refine T_skip fun a w hm => then_norm (((?_ : T Try.prog e 33 _ _ _) a w hm))
      refine T_reg [] [4] [(4,dI (0 : Int))] [] 1 (by kernel_rfl) (trivial) ?_
      obtain hs := Option.some.inj h; subst hs
      refine T_ret fun a w hm => T_return (fr' := [(4,dI (0 : Int))]) [4] (by kernel_rfl) [.keep [4]] (by kernel_rfl) (by kernel_rfl) (by kernel_rfl) (by show _ = _; kernel_rfl) (by exact trivial) a w hm
theorem bindery_frameOf_ok {F : Nat} {a0 : S_ImposeLayout} {r : S_bindery_frame} (h : bindery_frameOf F a0 = some r) : ACall Try.prog 23 [.agg (cS_ImposeLayout a0)] [] (.agg (cS_bindery_frame r)) [] := by
  rw [bindery_frameOf] at h
  refine ACall.intro (N := 62) Try.func23 rfl rfl rfl rfl rfl fun e => ?_
  refine T_reg [] [1,2] [(1,bx_ImposeLayout a0),(2,.box [dI 0,dI 0,dI 0,dI 0])] [] 2 (by kernel_rfl) (trivial) ?_
  refine T_reg [] [1,2,3] [(3,.box [dI (IntKind.i64.wrap ((IntKind.i64.wrap (a0.f1 + a0.f4)) + a0.f5)),dI (IntKind.i64.wrap (a0.f2 + (IntKind.i64.wrap ((2 : Int) * a0.f3)))),dI 0,dI 0])] [] 17 (by kernel_rfl) (trivial) ?_
  refine T_draw mixed [] [1,2,3,4,5] [] [(1,bx_ImposeLayout a0),(2,.box [dI 0,dI 0,dI 0,dI 0]),(3,.box [dI (IntKind.i64.wrap ((IntKind.i64.wrap (a0.f1 + a0.f4)) + a0.f5)),dI (IntKind.i64.wrap (a0.f2 + (IntKind.i64.wrap ((2 : Int) * a0.f3)))),dI 0,dI 0]),(4,dI (IntKind.i64.wrap ((IntKind.i64.wrap (a0.f1 + a0.f4)) + a0.f5))),(5,dI (IntKind.i64.wrap (a0.f2 + (IntKind.i64.wrap ((2 : Int) * a0.f3)))))] [] 6 (by kernel_rfl) (trivial) ?_
  refine T_joinc h (fun (p : Int × Int) => [(1,bx_ImposeLayout a0),(2,.box [dI 0,dI 0,dI 0,dI 0]),(3,.box [dI (IntKind.i64.wrap ((IntKind.i64.wrap (a0.f1 + a0.f4)) + a0.f5)),dI (IntKind.i64.wrap (a0.f2 + (IntKind.i64.wrap ((2 : Int) * a0.f3)))),dI 0,dI 0]),(4,dI p.1),(5,dI p.2)]) (fun s h => ?_) (fun s h => ?_)
  · obtain ⟨y1,hy1,h⟩ := call_ok h
    refine T_reg [(2,{ res := .tup [.d (.sl 4 (y1.1.map cS_FoldPage)),dI y1.2] })] [1,2,3,4,5,6] [(6,.d (.sl 4 (y1.1.map cS_FoldPage)))] [(2,ACall Try.prog 24 [.agg (cS_FoldScheme a0.f0)] [] (.tup [.d (.sl 4 (y1.1.map cS_FoldPage)),dI y1.2]) [])] 5 (by kernel_rfl) (fold_Pages_ok hy1) ?_
    obtain ⟨hp1,h⟩ := chk_ok h
    refine T_reg [(1,{ cs := cS_FoldPage (y1.1.getD (0 : Int).toNat z_FoldPage) })] [1,2,3,4,5,38] [(38,dB ((((y1.1.getD (0 : Int).toNat z_FoldPage).f3).tmod (2 : Int)) == (1 : Int)))] [(1,0 ≤ (0 : Int) ∧ (y1.1.map cS_FoldPage)[(0 : Int).toNat]? = some (cS_FoldPage (y1.1.getD (0 : Int).toNat z_FoldPage))),(2,(2 : Int) ≠ 0)] 1 (by kernel_rfl) (⟨idx_ok (d := z_FoldPage) cS_FoldPage hp1,(show (2 : Int) ≠ 0 by decide)⟩) ?_
    refine T_cond ((((y1.1.getD (0 : Int).toNat z_FoldPage).f3).tmod (2 : Int)) == (1 : Int)) (by kernel_rfl) (fun hc => ?_) (fun hc => ?_)
    · have h := cond_tt hc h
      obtain hs := Option.some.inj h; subst hs
      refine T_reg_end [] [1,2,3,4,5] [(4,dI (IntKind.i64.wrap (a0.f2 + (IntKind.i64.wrap ((2 : Int) * a0.f3))))),(5,dI (IntKind.i64.wrap ((IntKind.i64.wrap (a0.f1 + a0.f4)) + a0.f5)))] [] 4 (by kernel_rfl) (trivial) fun a w hm => then_norm (hm.co (cs := [.keep [1,2,3,4,5]]) (by show _ = _; kernel_rfl))
    · have h := cond_ff hc h
      obtain hs := Option.some.inj h; subst hs
      refine T_skip fun a w hm => then_norm (hm.co (cs := [.keep [1,2,3,4,5]]) (by show _ = _; kernel_rfl))
  · obtain ⟨v1,v2⟩ := s
    try dsimp only at h
    refine T_drawX mixed 40 (.take 0 (.take 3 (.take 4 (.take 6 (.take 9 (.take 12 (.take 13 (.take 15 (.all (.alt 1 (.take 2 (.all (.alt 5 (.take 7 (.take 8 (.take 18 (.all (.alt 10 (.take 11 (.all (.alt 14 (.take 16 (.take 17 (.all (.alt 19 (.take 20 (.all (.alt 21 .done .stop))) .stop)))) (.alt 19 (.all (.alt 14 (.take 16 (.take 17 (.take 20 (.all (.alt 21 .done .stop))))) .stop)) .stop)))) (.alt 14 (.take 16 (.all (.alt 10 (.take 11 (.take 17 (.all (.alt 19 (.take 20 (.all (.alt 21 .done .stop))) .stop)))) (.alt 19 (.all (.alt 10 (.take 11 (.take 17 (.take 20 (.all (.alt 21 .done .stop))))) .stop)) .stop)))) (.alt 19 (.all (.alt 10 (.take 11 (.all (.alt 14 (.take 16 (.take 17 (.take 20 (.all (.alt 21 .done .stop))))) .stop))) (.alt 14 (.take 16 (.all (.alt 10 (.take 11 (.take 17 (.take 20 (.all (.alt 21 .done .stop))))) .stop))) .stop))) .stop))))))) (.alt 10 (.take 11 (.all (.alt 5 (.take 7 (.take 8 (.take 18 (.all (.alt 14 (.take 16 (.take 17 (.all (.alt 19 (.take 20 (.all (.alt 21 .done .stop))) .stop)))) (.alt 19 (.all (.alt 14 (.take 16 (.take 17 (.take 20 (.all (.alt 21 .done .stop))))) .stop)) .stop)))))) (.alt 14 (.take 16 (.take 17 (.all (.alt 5 (.take 7 (.take 8 (.take 18 (.all (.alt 19 (.take 20 (.all (.alt 21 .done .stop))) .stop))))) .stop)))) .stop)))) (.alt 14 (.take 16 (.all (.alt 5 (.take 7 (.take 8 (.take 18 (.all (.alt 10 (.take 11 (.take 17 (.all (.alt 19 (.take 20 (.all (.alt 21 .done .stop))) .stop)))) (.alt 19 (.all (.alt 10 (.take 11 (.take 17 (.take 20 (.all (.alt 21 .done .stop))))) .stop)) .stop)))))) (.alt 10 (.take 11 (.take 17 (.all (.alt 5 (.take 7 (.take 8 (.take 18 (.all (.alt 19 (.take 20 (.all (.alt 21 .done .stop))) .stop))))) .stop)))) .stop)))) .stop))))) (.alt 5 (.take 7 (.all (.alt 1 (.take 2 (.take 8 (.take 18 (.all (.alt 10 (.take 11 (.all (.alt 14 (.take 16 (.take 17 (.all (.alt 19 (.take 20 (.all (.alt 21 .done .stop))) .stop)))) (.alt 19 (.all (.alt 14 (.take 16 (.take 17 (.take 20 (.all (.alt 21 .done .stop))))) .stop)) .stop)))) (.alt 14 (.take 16 (.all (.alt 10 (.take 11 (.take 17 (.all (.alt 19 (.take 20 (.all (.alt 21 .done .stop))) .stop)))) (.alt 19 (.all (.alt 10 (.take 11 (.take 17 (.take 20 (.all (.alt 21 .done .stop))))) .stop)) .stop)))) (.alt 19 (.all (.alt 10 (.take 11 (.all (.alt 14 (.take 16 (.take 17 (.take 20 (.all (.alt 21 .done .stop))))) .stop))) (.alt 14 (.take 16 (.all (.alt 10 (.take 11 (.take 17 (.take 20 (.all (.alt 21 .done .stop))))) .stop))) .stop))) .stop))))))) (.alt 10 (.take 11 (.all (.alt 1 (.take 2 (.take 8 (.take 18 (.all (.alt 14 (.take 16 (.take 17 (.all (.alt 19 (.take 20 (.all (.alt 21 .done .stop))) .stop)))) (.alt 19 (.all (.alt 14 (.take 16 (.take 17 (.take 20 (.all (.alt 21 .done .stop))))) .stop)) .stop)))))) (.alt 14 (.take 16 (.take 17 (.all (.alt 1 (.take 2 (.take 8 (.take 18 (.all (.alt 19 (.take 20 (.all (.alt 21 .done .stop))) .stop))))) .stop)))) .stop)))) (.alt 14 (.take 16 (.all (.alt 1 (.take 2 (.take 8 (.take 18 (.all (.alt 10 (.take 11 (.take 17 (.all (.alt 19 (.take 20 (.all (.alt 21 .done .stop))) .stop)))) (.alt 19 (.all (.alt 10 (.take 11 (.take 17 (.take 20 (.all (.alt 21 .done .stop))))) .stop)) .stop)))))) (.alt 10 (.take 11 (.take 17 (.all (.alt 1 (.take 2 (.take 8 (.take 18 (.all (.alt 19 (.take 20 (.all (.alt 21 .done .stop))) .stop))))) .stop)))) .stop)))) .stop))))) (.alt 10 (.take 11 (.all (.alt 1 (.take 2 (.all (.alt 5 (.take 7 (.take 8 (.take 18 (.all (.alt 14 (.take 16 (.take 17 (.all (.alt 19 (.take 20 (.all (.alt 21 .done .stop))) .stop)))) (.alt 19 (.all (.alt 14 (.take 16 (.take 17 (.take 20 (.all (.alt 21 .done .stop))))) .stop)) .stop)))))) (.alt 14 (.take 16 (.take 17 (.all (.alt 5 (.take 7 (.take 8 (.take 18 (.all (.alt 19 (.take 20 (.all (.alt 21 .done .stop))) .stop))))) .stop)))) .stop)))) (.alt 5 (.take 7 (.all (.alt 1 (.take 2 (.take 8 (.take 18 (.all (.alt 14 (.take 16 (.take 17 (.all (.alt 19 (.take 20 (.all (.alt 21 .done .stop))) .stop)))) (.alt 19 (.all (.alt 14 (.take 16 (.take 17 (.take 20 (.all (.alt 21 .done .stop))))) .stop)) .stop)))))) (.alt 14 (.take 16 (.take 17 (.all (.alt 1 (.take 2 (.take 8 (.take 18 (.all (.alt 19 (.take 20 (.all (.alt 21 .done .stop))) .stop))))) .stop)))) .stop)))) (.alt 14 (.take 16 (.take 17 (.all (.alt 1 (.take 2 (.all (.alt 5 (.take 7 (.take 8 (.take 18 (.all (.alt 19 (.take 20 (.all (.alt 21 .done .stop))) .stop))))) .stop))) (.alt 5 (.take 7 (.all (.alt 1 (.take 2 (.take 8 (.take 18 (.all (.alt 19 (.take 20 (.all (.alt 21 .done .stop))) .stop))))) .stop))) .stop))))) .stop))))) (.alt 14 (.take 16 (.all (.alt 1 (.take 2 (.all (.alt 5 (.take 7 (.take 8 (.take 18 (.all (.alt 10 (.take 11 (.take 17 (.all (.alt 19 (.take 20 (.all (.alt 21 .done .stop))) .stop)))) (.alt 19 (.all (.alt 10 (.take 11 (.take 17 (.take 20 (.all (.alt 21 .done .stop))))) .stop)) .stop)))))) (.alt 10 (.take 11 (.take 17 (.all (.alt 5 (.take 7 (.take 8 (.take 18 (.all (.alt 19 (.take 20 (.all (.alt 21 .done .stop))) .stop))))) .stop)))) .stop)))) (.alt 5 (.take 7 (.all (.alt 1 (.take 2 (.take 8 (.take 18 (.all (.alt 10 (.take 11 (.take 17 (.all (.alt 19 (.take 20 (.all (.alt 21 .done .stop))) .stop)))) (.alt 19 (.all (.alt 10 (.take 11 (.take 17 (.take 20 (.all (.alt 21 .done .stop))))) .stop)) .stop)))))) (.alt 10 (.take 11 (.take 17 (.all (.alt 1 (.take 2 (.take 8 (.take 18 (.all (.alt 19 (.take 20 (.all (.alt 21 .done .stop))) .stop))))) .stop)))) .stop)))) (.alt 10 (.take 11 (.take 17 (.all (.alt 1 (.take 2 (.all (.alt 5 (.take 7 (.take 8 (.take 18 (.all (.alt 19 (.take 20 (.all (.alt 21 .done .stop))) .stop))))) .stop))) (.alt 5 (.take 7 (.all (.alt 1 (.take 2 (.take 8 (.take 18 (.all (.alt 19 (.take 20 (.all (.alt 21 .done .stop))) .stop))))) .stop))) .stop))))) .stop))))) .stop))))))))))))) ([0,1,2,0,8,16,0,96,132,0,512,1024,0,4096,8192,0,49152,67584,511,262655,1048575,2097151],[0,1,2,0,8,16,0,96,132,0,512,1024,0,4096,8192,0,49152,67584,0,262400,0,1179648]) 1555421 [] [2,3] [] [(2,.box [dI 0,dI 0,dI 0,dI 0]),(3,.box [dI (IntKind.i64.wrap ((IntKind.i64.wrap (a0.f1 + a0.f4)) + a0.f5)),dI (IntKind.i64.wrap (a0.f2 + (IntKind.i64.wrap ((2 : Int) * a0.f3)))),dI (IntKind.i64.wrap ((IntKind.i64.wrap ((2 : Int) * a0.f6)) + (IntKind.i64.wrap (a0.f0.f0 * v1)))),dI (IntKind.i64.wrap ((IntKind.i64.wrap ((2 : Int) * a0.f6)) + (IntKind.i64.wrap (a0.f0.f1 * v2))))])] [] 376 (by kernel_rfl) (by kernel_rfl) (by kernel_rfl) (trivial) ?_
    refine T_reg [] [2] [(2,.box [dI (IntKind.i64.wrap ((IntKind.i64.wrap (a0.f1 + a0.f4)) + a0.f5)),dI (IntKind.i64.wrap (a0.f2 + (IntKind.i64.wrap ((2 : Int) * a0.f3)))),dI (IntKind.i64.wrap ((IntKind.i64.wrap ((2 : Int) * a0.f6)) + (IntKind.i64.wrap (a0.f0.f0 * v1)))),dI (IntKind.i64.wrap ((IntKind.i64.wrap ((2 : Int) * a0.f6)) + (IntKind.i64.wrap (a0.f0.f1 * v2))))])] [] 2 (by kernel_rfl) (trivial) ?_
    obtain hs := Option.some.inj h; subst hs
    refine T_ret fun a w hm => T_returnC (fr' := [(2,.box [dI (IntKind.i64.wrap ((IntKind.i64.wrap (a0.f1 + a0.f4)) + a0.f5)),dI (IntKind.i64.wrap (a0.f2 + (IntKind.i64.wrap ((2 : Int) * a0.f3)))),dI (IntKind.i64.wrap ((IntKind.i64.wrap ((2 : Int) * a0.f6)) + (IntKind.i64.wrap (a0.f0.f0 * v1)))),dI (IntKind.i64.wrap ((IntKind.i64.wrap ((2 : Int) * a0.f6)) + (IntKind.i64.wrap (a0.f0.f1 * v2))))])]) (ts := [62]) (N' := 63) (fr2 := [(62,.agg (cS_bindery_frame (S_bindery_frame.mk (IntKind.i64.wrap ((IntKind.i64.wrap (a0.f1 + a0.f4)) + a0.f5)) (IntKind.i64.wrap (a0.f2 + (IntKind.i64.wrap ((2 : Int) * a0.f3)))) (IntKind.i64.wrap ((IntKind.i64.wrap ((2 : Int) * a0.f6)) + (IntKind.i64.wrap (a0.f0.f0 * v1)))) (IntKind.i64.wrap ((IntKind.i64.wrap ((2 : Int) * a0.f6)) + (IntKind.i64.wrap (a0.f0.f1 * v2)))))))] ++ [(2,.box [dI (IntKind.i64.wrap ((IntKind.i64.wrap (a0.f1 + a0.f4)) + a0.f5)),dI (IntKind.i64.wrap (a0.f2 + (IntKind.i64.wrap ((2 : Int) * a0.f3)))),dI (IntKind.i64.wrap ((IntKind.i64.wrap ((2 : Int) * a0.f6)) + (IntKind.i64.wrap (a0.f0.f0 * v1)))),dI (IntKind.i64.wrap ((IntKind.i64.wrap ((2 : Int) * a0.f6)) + (IntKind.i64.wrap (a0.f0.f1 * v2))))])]) [.keep [2]] (by kernel_rfl) (by kernel_rfl) (by kernel_rfl) (by kernel_rfl) (by show _ = _; kernel_rfl) (by exact trivial) a w hm
theorem raster_Grid_uint8_Crop_c1_ok {F : Nat} {a0 : Int} {a1 : Int} {c2 : Int} {c3 : Int} {c4 : List UInt8} {c5 : Int} {c6 : Int} {r : Int × Int × Int × (List UInt8) × Int × Int} (h : raster_Grid_uint8_Crop_c1 F a0 a1 c2 c3 c4 c5 c6 = some r) : ACall Try.prog 61 [.d (.v (.int .i64 a0)),.d (.v (.int .i64 a1)),.bp 1000000 0,.bp 1000001 0,.bp 1000002 0] [.box [.d (.v (.int .i64 c2)),.d (.v (.int .i64 c3)),.d (.sl 1 (c4.map cU))],.box [.d (.v (.int .i64 c5))],.box [.d (.v (.int .i64 c6))]] (.d (.v (.int .u8 r.1))) [.box [.d (.v (.int .i64 r.2.1)),.d (.v (.int .i64 r.2.2.1)),.d (.sl 1 (r.2.2.2.1.map cU))],.box [.d (.v (.int .i64 r.2.2.2.2.1))],.box [.d (.v (.int .i64 r.2.2.2.2.2))]] := by
  rw [raster_Grid_uint8_Crop_c1] at h
  refine ACall.intro (N := 22) Try.func61 rfl rfl rfl rfl rfl fun e => ?_
  refine T_reg [] [0,1,2,3,4,1000000,1000001,1000002] [] [] 1 (by kernel_rfl) (trivial) ?_
  obtain ⟨z1,hz1,h⟩ := lett_ok h
  obtain ⟨hp1,h⟩ := chk_ok h
  refine T_reg [(11,{ rw := some (dI z1) }),(12,{ cs := cU (c4.getD z1.toNat 0) })] [7,1000000,1000001,1000002] [(7,.d (.v (.int .u8 ((c4.getD z1.toNat 0).toNat : Int))))] [(11,(True) ∧ dI (IntKind.i64.wrap ((IntKind.i64.wrap ((IntKind.i64.wrap ((IntKind.i64.wrap (c5 + a1)) * c2)) + c6)) + a0)) = dI z1),(0,0 ≤ z1 ∧ (c4.map cU)[z1.toNat]? = some (cU (c4.getD z1.toNat 0)))] 2 (by kernel_rfl) (⟨⟨trivial,(by subst hz1; rfl)⟩,idx_ok (d := 0) cU hp1⟩) ?_
  obtain hs := Option.some.inj h; subst hs
  refine T_ret fun a w hm => T_return (fr' := [(7,.d (.v (.int .u8 ((c4.getD z1.toNat 0).toNat : Int)))),(1000000,.box [dI c2,dI c3,.d (.sl 1 (c4.map cU))]),(1000001,.box [dI c5]),(1000002,.box [dI c6])]) [7] (by kernel_rfl) [.keep [7,1000000,1000001,1000002]] (by kernel_rfl) (by kernel_rfl) (by kernel_rfl) (by show _ = _; kernel_rfl) (by exact ⟨⟨by kernel_rfl,by kernel_rfl⟩,⟨⟨by kernel_rfl,by kernel_rfl⟩,⟨⟨by kernel_rfl,by kernel_rfl⟩,trivial⟩⟩⟩) a w hm
theorem raster_build_uint8_ok {F : Nat} {a0 : Int} {a1 : Int} {c2 : Int} {c3 : Int} {c4 : List UInt8} {c5 : Int} {c6 : Int} {r : S_Plate × Int × Int × (List UInt8) × Int × Int} (h : raster_build_uint8 F a0 a1 c2 c3 c4 c5 c6 = some r) : ACall Try.prog 53 [.d (.v (.int .i64 a0)),.d (.v (.int .i64 a1)),.clo 61 [.bp 1000000 0,.bp 1000001 0,.bp 1000002 0]] [.box [.d (.v (.int .i64 c2)),.d (.v (.int .i64 c3)),.d (.sl 1 (c4.map cU))],.box [.d (.v (.int .i64 c5))],.box [.d (.v (.int .i64 c6))]] (.agg (cS_Plate r.1)) [.box [.d (.v (.int .i64 r.2.1)),.d (.v (.int .i64 r.2.2.1)),.d (.sl 1 (r.2.2.2.1.map cU))],.box [.d (.v (.int .i64 r.2.2.2.2.1))],.box [.d (.v (.int .i64 r.2.2.2.2.2))]] := by
  rw [raster_build_uint8] at h
  refine ACall.intro (N := 37) Try.func53 rfl rfl rfl rfl rfl fun e => ?_
  refine T_reg [] [0,1,2,6,1000000,1000001,1000002] [(6,.box [dI 0,dI 0,oW6 []])] [] 1 (by kernel_rfl) (trivial) ?_
  obtain ⟨hp1,h⟩ := chk_ok h
  refine T_region [(5,{ es := some ((List.replicate (0 : Int).toNat 0).map cU) })] [0,1,2,6,7,15,1000000,1000001,1000002] [.claimc 7 2,.keep [0,1,2,6,7,1000000,1000001,1000002]] [(0,dI a0),(1,dI a1),(2,.clo 61 [.bp 1000000 0,.bp 1000001 0,.bp 1000002 0]),(6,.box [dI 0,dI 0,oW6 []]),(7,.box [dI a0,dI a1,.own 5 1 ((List.replicate (0 : Int).toNat 0).map cU)]),(1000000,.box [dI c2,dI c3,.d (.sl 1 (c4.map cU))]),(1000001,.box [dI c5]),(1000002,.box [dI c6])] [(5,(0 ≤ (0 : Int) ∧ (0 : Int) ≤ (IntKind.i64.wrap (a0 * a1)) ∧ (IntKind.i64.wrap (a0 * a1)) ≤ 9223372036854775807 ∧ ((1 : Nat) : Int) * (IntKind.i64.wrap (a0 * a1)) ≤ 281474976710656) ∧ List.replicate (0 : Int).toNat (cU 0) = ((List.replicate (0 : Int).toNat 0).map cU))] 3 (by kernel_rfl) (⟨hp1,repl_ok cU rfl⟩) ?_
  refine T_seqk ?_
  refine T_reg [] [0,2,6,7,17,18,1000000,1000001,1000002] [(17,dI a1),(18,dI (0 : Int))] [] 2 (by kernel_rfl) (trivial) ?_
  refine T_joinct h (fun (p : (List UInt8) × Int × Int × (List UInt8) × Int × Int) => [(6,.box [dI 0,dI 0,oW6 []]),(7,.box [dI a0,dI a1,oW6 p.1]),(1000000,.box [dI p.2.1,dI p.2.2.1,.d (.sl 1 (p.2.2.2.1.map cU))]),(1000001,.box [dI p.2.2.2.2.1]),(1000002,.box [dI p.2.2.2.2.2])]) (fun s h => ?_) (fun s h => ?_)
  · refine T_co [.keep [0,2,6,7,17,18,1000000,1000001,1000002]] ((fun (p : (List UInt8) × Int × Int × Int × (List UInt8) × Int × Int) => [(0,dI a0),(2,.clo 61 [.bp 1000000 0,.bp 1000001 0,.bp 1000002 0]),(6,.box [dI 0,dI 0,oW6 []]),(7,.box [dI a0,dI a1,oW6 p.1]),(17,dI a1),(18,dI p.2.1),(1000000,.box [dI p.2.2.1,dI p.2.2.2.1,.d (.sl 1 (p.2.2.2.2.1.map cU))]),(1000001,.box [dI p.2.2.2.2.2.1]),(1000002,.box [dI p.2.2.2.2.2.2])]) ((List.replicate (0 : Int).toNat 0),(0 : Int),c2,c3,c4,c5,c6)) (by show _ = _; kernel_rfl) ?_
    refine T_block ?_
    refine T_loopF (ι := (List UInt8) × Int × Int × Int × (List UInt8) × Int × Int) (fun (p : (List UInt8) × Int × Int × Int × (List UInt8) × Int × Int) => [(0,dI a0),(2,.clo 61 [.bp 1000000 0,.bp 1000001 0,.bp 1000002 0]),(6,.box [dI 0,dI 0,oW6 []]),(7,.box [dI a0,dI a1,oW6 p.1]),(17,dI a1),(18,dI p.2.1),(1000000,.box [dI p.2.2.1,dI p.2.2.2.1,.d (.sl 1 (p.2.2.2.2.1.map cU))]),(1000001,.box [dI p.2.2.2.2.2.1]),(1000002,.box [dI p.2.2.2.2.2.2])]) (fun n p => raster_build_uint8_L0 F a0 a1 n p.1 p.2.1 p.2.2.1 p.2.2.2.1 p.2.2.2.2.1 p.2.2.2.2.2.1 p.2.2.2.2.2.2 = some s) (fun i hh => by simp [raster_build_uint8_L0] at hh) (fun n p h => ?_) F ((List.replicate (0 : Int).toNat 0),(0 : Int),c2,c3,c4,c5,c6) h
    obtain ⟨v9,v1,v10,v11,v12,v13,v14⟩ := p
    have h : raster_build_uint8_L0 F a0 a1 (n + 1) v9 v1 v10 v11 v12 v13 v14 = some s := h
    rw [raster_build_uint8_L0] at h
    refine T_reg [] [0,2,6,7,17,18,19,1000000,1000001,1000002] [(19,dB (decide (v1 < a1)))] [] 1 (by kernel_rfl) (trivial) ?_
    refine T_seqk ?_
    refine T_cond (decide (v1 < a1)) (by kernel_rfl) (fun hc => ?_) (fun hc => ?_)
    · have h := cond_tt hc h
      refine T_skip fun a w hm => then_norm (((?_ : T Try.prog e 37 _ _ _) a w hm))
      refine T_seqk ?_
      refine T_block ?_
      refine T_reg [] [0,2,6,7,8,17,18,1000000,1000001,1000002] [(8,dI v1)] [] 2 (by kernel_rfl) (trivial) ?_
      refine T_reg [] [0,2,6,7,8,17,18,21,22,1000000,1000001,1000002] [(21,dI a0),(22,dI (0 : Int))] [] 2 (by kernel_rfl) (trivial) ?_
      refine T_joinct h (fun (p : (List UInt8) × Int × Int × (List UInt8) × Int × Int) => [(0,dI a0),(2,.clo 61 [.bp 1000000 0,.bp 1000001 0,.bp 1000002 0]),(6,.box [dI 0,dI 0,oW6 []]),(7,.box [dI a0,dI a1,oW6 p.1]),(17,dI a1),(18,dI v1),(1000000,.box [dI p.2.1,dI p.2.2.1,.d (.sl 1 (p.2.2.2.1.map cU))]),(1000001,.box [dI p.2.2.2.2.1]),(1000002,.box [dI p.2.2.2.2.2])]) (fun s h => ?_) (fun s h => ?_)
      · refine T_co [.keep [0,2,6,7,8,17,18,21,22,1000000,1000001,1000002]] ((fun (p : (List UInt8) × Int × Int × Int × (List UInt8) × Int × Int) => [(0,dI a0),(2,.clo 61 [.bp 1000000 0,.bp 1000001 0,.bp 1000002 0]),(6,.box [dI 0,dI 0,oW6 []]),(7,.box [dI a0,dI a1,oW6 p.1]),(8,dI v1),(17,dI a1),(18,dI v1),(21,dI a0),(22,dI p.2.1),(1000000,.box [dI p.2.2.1,dI p.2.2.2.1,.d (.sl 1 (p.2.2.2.2.1.map cU))]),(1000001,.box [dI p.2.2.2.2.2.1]),(1000002,.box [dI p.2.2.2.2.2.2])]) (v9,(0 : Int),v10,v11,v12,v13,v14)) (by show _ = _; kernel_rfl) ?_
        refine T_block ?_
        refine T_loopF (ι := (List UInt8) × Int × Int × Int × (List UInt8) × Int × Int) (fun (p : (List UInt8) × Int × Int × Int × (List UInt8) × Int × Int) => [(0,dI a0),(2,.clo 61 [.bp 1000000 0,.bp 1000001 0,.bp 1000002 0]),(6,.box [dI 0,dI 0,oW6 []]),(7,.box [dI a0,dI a1,oW6 p.1]),(8,dI v1),(17,dI a1),(18,dI v1),(21,dI a0),(22,dI p.2.1),(1000000,.box [dI p.2.2.1,dI p.2.2.2.1,.d (.sl 1 (p.2.2.2.2.1.map cU))]),(1000001,.box [dI p.2.2.2.2.2.1]),(1000002,.box [dI p.2.2.2.2.2.2])]) (fun n p => raster_build_uint8_L2 F a0 v1 n p.1 p.2.1 p.2.2.1 p.2.2.2.1 p.2.2.2.2.1 p.2.2.2.2.2.1 p.2.2.2.2.2.2 = some s) (fun i hh => by simp [raster_build_uint8_L2] at hh) (fun n p h => ?_) F (v9,(0 : Int),v10,v11,v12,v13,v14) h
        obtain ⟨v2,v3,v4,v5,v6,v7,v8⟩ := p
        have h : raster_build_uint8_L2 F a0 v1 (n + 1) v2 v3 v4 v5 v6 v7 v8 = some s := h
        rw [raster_build_uint8_L2] at h
        refine T_reg [] [0,2,6,7,8,17,18,21,22,23,1000000,1000001,1000002] [(23,dB (decide (v3 < a0)))] [] 1 (by kernel_rfl) (trivial) ?_
        refine T_seqk ?_
        refine T_cond (decide (v3 < a0)) (by kernel_rfl) (fun hc => ?_) (fun hc => ?_)
        · have h := cond_tt hc h
          refine T_skip fun a w hm => then_norm (((?_ : T Try.prog e 37 _ _ _) a w hm))
          refine T_seqk ?_
          refine T_block ?_
          refine T_reg [] [0,2,6,7,8,9,17,18,21,22,1000000,1000001,1000002] [(9,dI v3)] [] 2 (by kernel_rfl) (trivial) ?_
          obtain ⟨y1,hy1,h⟩ := call_ok h
          obtain ⟨hp2,h⟩ := chk_ok h
          obtain ⟨hp3,h⟩ := chk_ok h
          refine T_drawX_end mixed 3 (.take 0 (.take 2 (.take 3 (.take 4 (.all (.alt 1 (.all (.alt 5 (.all (.alt 6 (.all (.alt 7 (.take 8 (.all (.alt 9 .done .stop))) .stop)) .stop)) .stop)) (.alt 5 (.all (.alt 1 (.all (.alt 6 (.all (.alt 7 (.take 8 (.all (.alt 9 .done .stop))) .stop)) .stop)) (.alt 6 (.all (.alt 1 (.all (.alt 7 (.take 8 (.all (.alt 9 .done .stop))) .stop)) .stop)) .stop))) .stop))))))) ([0,1,0,0,0,28,32,98,255,511],[0,1,0,0,0,28,32,66,0,384]) 285 [(5,{ res := .d (.v (.int .u8 y1.1)),vout := [.box [dI y1.2.1,dI y1.2.2.1,.d (.sl 1 (y1.2.2.2.1.map cU))],.box [dI y1.2.2.2.2.1],.box [dI y1.2.2.2.2.2]],xs := [1000000,1000001,1000002] }),(6,{ es := some (([(UInt8.ofNat y1.1.toNat)]).map cU) }),(7,{ es := some ((v2 ++ ([(UInt8.ofNat y1.1.toNat)])).map cU) })] [0,2,6,7,8,17,18,21,22,1000000,1000001,1000002] [] [(0,dI a0),(2,.clo 61 [.bp 1000000 0,.bp 1000001 0,.bp 1000002 0]),(6,.box [dI 0,dI 0,oW6 []]),(7,.box [dI a0,dI a1,.own 5 1 ((v2 ++ ([(UInt8.ofNat y1.1.toNat)])).map cU)]),(8,dI v1),(17,dI a1),(18,dI v1),(21,dI a0),(22,dI v3),(1000000,.box [dI y1.2.1,dI y1.2.2.1,.d (.sl 1 (y1.2.2.2.1.map cU))]),(1000001,.box [dI y1.2.2.2.2.1]),(1000002,.box [dI y1.2.2.2.2.2])] ((fun (o5 : Prop) => fun (o6 : Prop) => fun (o7 : Prop) => [(5,o5),(0,o6),(0,o7),(2,o5),(1,o6),(0,o7),(2,o6),(1,o7)]) (ACall Try.prog 61 [dI v3,dI v1,.bp 1000000 0,.bp 1000001 0,.bp 1000002 0] [.box [dI v4,dI v5,.d (.sl 1 (v6.map cU))],.box [dI v7],.box [dI v8]] (.d (.v (.int .u8 y1.1))) [.box [dI y1.2.1,dI y1.2.2.1,.d (.sl 1 (y1.2.2.2.1.map cU))],.box [dI y1.2.2.2.2.1],.box [dI y1.2.2.2.2.2]]) ([[Dat.v (.int .u8 y1.1)]] = (([(UInt8.ofNat y1.1.toNat)]).map cU)) ((v2.map cU).length + (([(UInt8.ofNat y1.1.toNat)]).map cU).length ≤ 4294967296 ∧ (v2.map cU) ++ (([(UInt8.ofNat y1.1.toNat)]).map cU) = ((v2 ++ ([(UInt8.ofNat y1.1.toNat)])).map cU))) 2 (by kernel_rfl) (by kernel_rfl) (by kernel_rfl) (have p5 := raster_Grid_uint8_Crop_c1_ok hy1; have p6 := (lit_u hp2 (rfl : ([] : List (List Dat)) = ([] : List UInt8).map cU)); have p7 := app_ok cU hp3; ⟨p5,p6,p7,p5,p6,p7,p6,p7⟩) fun a w hm => inBlock_norm (then_norm (((?_ : T Try.prog e 37 _ _ _) a w hm)))
          refine T_reg_end [] [0,2,6,7,8,17,18,21,22,1000000,1000001,1000002] [(22,dI (IntKind.i64.wrap (v3 + (1 : Int))))] [] 2 (by kernel_rfl) (trivial) fun a w hm => then_norm (⟨((v2 ++ ([(UInt8.ofNat y1.1.toNat)])),IntKind.i64.wrap (v3 + (1 : Int)),y1.2.1,y1.2.2.1,y1.2.2.2.1,y1.2.2.2.2.1,y1.2.2.2.2.2),h,hm.co (cs := [.keep [0,2,6,7,8,17,18,21,22,1000000,1000001,1000002]]) (by show _ = _; kernel_rfl)⟩)
        · have h := cond_ff hc h
          obtain hs := Option.some.inj h; subst hs
          refine T_exit fun a w hm => then_exit (then_exit (inBlock_exit (then_norm (hm.co (cs := [.keep [0,2,6,7,17,18,1000000,1000001,1000002]]) (by show _ = _; kernel_rfl)))))
      · obtain ⟨v15,v16,v17,v18,v19,v20⟩ := s
        try dsimp only at h
        refine fun a w hm => inBlock_norm (then_norm (((?_ : T Try.prog e 37 _ _ _) a w hm)))
        refine T_reg_end [] [0,2,6,7,17,18,1000000,1000001,1000002] [(18,dI (IntKind.i64.wrap (v1 + (1 : Int))))] [] 2 (by kernel_rfl) (trivial) fun a w hm => then_norm (⟨(v15,IntKind.i64.wrap (v1 + (1 : Int)),v16,v17,v18,v19,v20),h,hm.co (cs := [.keep [0,2,6,7,17,18,1000000,1000001,1000002]]) (by show _ = _; kernel_rfl)⟩)
    · have h := cond_ff hc h
      obtain hs := Option.some.inj h; subst hs
      refine T_exit fun a w hm => then_exit (then_exit (inBlock_exit (then_norm (hm.co (cs := [.keep [6,7,1000000,1000001,1000002]]) (by show _ = _; kernel_rfl)))))
  · obtain ⟨v21,v22,v23,v24,v25,v26⟩ := s
    try dsimp only at h
    refine fun a w hm => then_norm (((?_ : T Try.prog e 37 _ _ _) a w hm))
    refine T_reg [(0,{ frz := [(7,3)] })] [6,1000000,1000001,1000002] [(6,.box [dI a0,dI a1,.d (.sl 1 (v21.map cU))])] [] 2 (by kernel_rfl) (trivial) ?_
    obtain hs := Option.some.inj h; subst hs
    refine T_ret fun a w hm => T_returnC (fr' := [(6,.box [dI a0,dI a1,.d (.sl 1 (v21.map cU))]),(1000000,.box [dI v22,dI v23,.d (.sl 1 (v24.map cU))]),(1000001,.box [dI v25]),(1000002,.box [dI v26])]) (ts := [37]) (N' := 38) (fr2 := [(37,.agg (cS_Plate (S_Plate.mk a0 a1 v21)))] ++ [(6,.box [dI a0,dI a1,.d (.sl 1 (v21.map cU))]),(1000000,.box [dI v22,dI v23,.d (.sl 1 (v24.map cU))]),(1000001,.box [dI v25]),(1000002,.box [dI v26])]) [.keep [6,1000000,1000001,1000002]] (by kernel_rfl) (by kernel_rfl) (by kernel_rfl) (by kernel_rfl) (by show _ = _; kernel_rfl) (by exact ⟨⟨by kernel_rfl,by kernel_rfl⟩,⟨⟨by kernel_rfl,by kernel_rfl⟩,⟨⟨by kernel_rfl,by kernel_rfl⟩,trivial⟩⟩⟩) a w hm
theorem raster_Grid_uint8_Crop_ok {F : Nat} {a0 : S_Plate} {a1 : Int} {a2 : Int} {a3 : Int} {a4 : Int} {r : S_Plate × Int} (h : raster_Grid_uint8_Crop F a0 a1 a2 a3 a4 = some r) : ACall Try.prog 42 [.agg (cS_Plate a0),.d (.v (.int .i64 a1)),.d (.v (.int .i64 a2)),.d (.v (.int .i64 a3)),.d (.v (.int .i64 a4))] [] (.tup [.agg (cS_Plate r.1),.d (.v (.int .i64 r.2))]) [] := by
  rw [raster_Grid_uint8_Crop] at h
  refine ACall.intro (N := 66) Try.func42 rfl rfl rfl rfl rfl fun e => ?_
  refine T_reg [] [3,4,5,6,7,10] [(5,bx_Plate a0),(6,.box [dI a1]),(7,.box [dI a2]),(10,.box [dI 0,dI 0,oW6 []])] [] 5 (by kernel_rfl) (trivial) ?_
  refine T_seqk ?_
  obtain ⟨y1,hy1,h⟩ := call_ok h
  refine T_reg [(1,{ res := dI y1 })] [3,4,5,6,7,10,12] [(12,dI y1)] [(1,ACall Try.prog 41 [.agg (cS_Plate a0)] [] (dI y1) [])] 1 (by kernel_rfl) (raster_Grid_uint8_Check_ok hy1) ?_
  refine T_reg [] [3,4,5,6,7,10,12,16] [(16,dB (y1 != (0 : Int)))] [] 2 (by kernel_rfl) (trivial) ?_
  refine T_cond (y1 != (0 : Int)) (by kernel_rfl) (fun hc => ?_) (fun hc => ?_)
  · have h := cond_tt hc h
    refine T_region [(0,{ take := [0] })] [10,11] [.nilc 10 2 5 1,.keep [10,11]] [(10,.box [dI 0,dI 0,oW6 []]),(11,dI y1)] [] 4 (by kernel_rfl) (trivial) ?_
    obtain hs := Option.some.inj h; subst hs
    refine T_ret fun a w hm => then_ret (T_returnC (fr' := [(10,.box [dI 0,dI 0,.fz 1 ([].map cU)]),(11,dI y1)]) (ts := [66,11]) (N' := 67) (fr2 := [(66,.agg (cS_Plate z_Plate))] ++ [(10,.box [dI 0,dI 0,.fz 1 ([].map cU)]),(11,dI y1)]) [.frz (10,3),.keep [10,11]] (by kernel_rfl) (by kernel_rfl) (by kernel_rfl) (by kernel_rfl) (by show _ = _; kernel_rfl) (by exact trivial) a w hm)
  · have h := cond_ff hc h
    refine T_skip fun a w hm => then_norm (((?_ : T Try.prog e 66 _ _ _) a w hm))
    refine T_seqk ?_
    obtain ⟨z1,hz1,h⟩ := lett_ok h
    obtain ⟨z2,hz2,h⟩ := lett_ok h
    obtain ⟨z3,hz3,h⟩ := lett_ok h
    refine T_reg [(9,{ rw := some (dB z1) }),(25,{ rw := some (dB z2) }),(41,{ rw := some (dB z3) })] [3,4,5,6,7,10,60] [(60,dB z3)] [(3,((((decide (a3 < (1 : Int))) == false) && true) = true → True)),(0,((((decide (a3 < (1 : Int))) == false) && true) = true → True)),(2,((((bif (decide (a3 < (1 : Int))) then true else (decide (a4 < (1 : Int)))) == false) && true) = true → True)),(0,((((bif (decide (a3 < (1 : Int))) then true else (decide (a4 < (1 : Int)))) == false) && true) = true → True)),(0,(True) ∧ dB (bif (bif (decide (a3 < (1 : Int))) then true else (decide (a4 < (1 : Int)))) then true else (decide (a1 < (0 : Int)))) = dB z1),(1,(((z1 == false) && true) = true → True)),(0,(((z1 == false) && true) = true → True)),(2,((((bif z1 then true else (decide (a2 < (0 : Int)))) == false) && true) = true → True)),(0,((((bif z1 then true else (decide (a2 < (0 : Int)))) == false) && true) = true → True)),(0,((((bif z1 then true else (decide (a2 < (0 : Int)))) == false) && true) = true → True)),(0,((((bif z1 then true else (decide (a2 < (0 : Int)))) == false) && true) = true → True)),(2,((((bif (bif z1 then true else (decide (a2 < (0 : Int)))) then true else (decide (a3 > a0.f0))) == false) && true) = true → True)),(0,((((bif (bif z1 then true else (decide (a2 < (0 : Int)))) then true else (decide (a3 > a0.f0))) == false) && true) = true → True)),(0,((((bif (bif z1 then true else (decide (a2 < (0 : Int)))) then true else (decide (a3 > a0.f0))) == false) && true) = true → True)),(0,((((bif (bif z1 then true else (decide (a2 < (0 : Int)))) then true else (decide (a3 > a0.f0))) == false) && true) = true → True)),(0,(True) ∧ dB (bif (bif (bif z1 then true else (decide (a2 < (0 : Int)))) then true else (decide (a3 > a0.f0))) then true else (decide (a4 > a0.f1))) = dB z2),(1,(((z2 == false) && true) = true → True)),(0,(((z2 == false) && true) = true → True)),(0,(((z2 == false) && true) = true → True)),(0,(((z2 == false) && true) = true → True)),(0,(((z2 == false) && true) = true → True)),(0,(((z2 == false) && true) = true → True)),(2,((((bif z2 then true else (decide (a1 > (IntKind.i64.wrap (a0.f0 - a3))))) == false) && true) = true → True)),(0,((((bif z2 then true else (decide (a1 > (IntKind.i64.wrap (a0.f0 - a3))))) == false) && true) = true → True)),(0,((((bif z2 then true else (decide (a1 > (IntKind.i64.wrap (a0.f0 - a3))))) == false) && true) = true → True)),(0,((((bif z2 then true else (decide (a1 > (IntKind.i64.wrap (a0.f0 - a3))))) == false) && true) = true → True)),(0,((((bif z2 then true else (decide (a1 > (IntKind.i64.wrap (a0.f0 - a3))))) == false) && true) = true → True)),(0,((((bif z2 then true else (decide (a1 > (IntKind.i64.wrap (a0.f0 - a3))))) == false) && true) = true → True)),(0,(True) ∧ dB (bif (bif z2 then true else (decide (a1 > (IntKind.i64.wrap (a0.f0 - a3))))) then true else (decide (a2 > (IntKind.i64.wrap (a0.f1 - a4))))) = dB z3)] 0 (by kernel_rfl) (⟨(fun hg => trivial),(fun hg => trivial),(fun hg => trivial),(fun hg => trivial),⟨trivial,(by subst hz1; rfl)⟩,(fun hg => trivial),(fun hg => trivial),(fun hg => trivial),(fun hg => trivial),(fun hg => trivial),(fun hg => trivial),(fun hg => trivial),(fun hg => trivial),(fun hg => trivial),(fun hg => trivial),⟨trivial,(by subst hz2; rfl)⟩,(fun hg => trivial),(fun hg => trivial),(fun hg => trivial),(fun hg => trivial),(fun hg => trivial),(fun hg => trivial),(fun hg => trivial),(fun hg => trivial),(fun hg => trivial),(fun hg => trivial),(fun hg => trivial),(fun hg => trivial),⟨trivial,(by subst hz3; rfl)⟩⟩) ?_
    refine T_cond z3 (by kernel_rfl) (fun hc => ?_) (fun hc => ?_)
    · have h := cond_tt hc h
      refine T_region [(0,{ take := [0] })] [10,11] [.nilc 10 2 5 1,.keep [10,11]] [(10,.box [dI 0,dI 0,oW6 []]),(11,dI (3 : Int))] [] 3 (by kernel_rfl) (trivial) ?_
      obtain hs := Option.some.inj h; subst hs
      refine T_ret fun a w hm => then_ret (T_returnC (fr' := [(10,.box [dI 0,dI 0,.fz 1 ([].map cU)]),(11,dI (3 : Int))]) (ts := [66,11]) (N' := 67) (fr2 := [(66,.agg (cS_Plate z_Plate))] ++ [(10,.box [dI 0,dI 0,.fz 1 ([].map cU)]),(11,dI (3 : Int))]) [.frz (10,3),.keep [10,11]] (by kernel_rfl) (by kernel_rfl) (by kernel_rfl) (by kernel_rfl) (by show _ = _; kernel_rfl) (by exact trivial) a w hm)
    · have h := cond_ff hc h
      refine T_skip fun a w hm => then_norm (((?_ : T Try.prog e 66 _ _ _) a w hm))
      obtain ⟨y2,hy2,h⟩ := call_ok h
      refine T_reg [(3,{ res := .agg (cS_Plate y2.1),vout := [.box [dI y2.2.1,dI y2.2.2.1,.d (.sl 1 (y2.2.2.2.1.map cU))],.box [dI y2.2.2.2.2.1],.box [dI y2.2.2.2.2.2]],xs := [5,7,6] })] [10,11] [(10,bx_Plate y2.1),(11,dI (0 : Int))] [(3,ACall Try.prog 53 [dI a3,dI a4,.clo 61 [.bp 1000000 0,.bp 1000001 0,.bp 1000002 0]] [bx_Plate a0,.box [dI a2],.box [dI a1]] (.agg (cS_Plate y2.1)) [.box [dI y2.2.1,dI y2.2.2.1,.d (.sl 1 (y2.2.2.2.1.map cU))],.box [dI y2.2.2.2.2.1],.box [dI y2.2.2.2.2.2]])] 2 (by kernel_rfl) (raster_build_uint8_ok hy2) ?_
      obtain hs := Option.some.inj h; subst hs
      refine T_ret fun a w hm => T_returnC (fr' := [(10,bx_Plate y2.1),(11,dI (0 : Int))]) (ts := [66,11]) (N' := 67) (fr2 := [(66,.agg (cS_Plate y2.1))] ++ [(10,bx_Plate y2.1),(11,dI (0 : Int))]) [.keep [10,11]] (by kernel_rfl) (by kernel_rfl) (by kernel_rfl) (by kernel_rfl) (by show _ = _; kernel_rfl) (by exact trivial) a w hm
theorem raster_Grid_uint8_Turn_c1_ok {F : Nat} {a0 : Int} {a1 : Int} {c2 : Int} {c3 : Int} {c4 : List UInt8} {c5 : Int} {c6 : Int} {r : Int × Int × Int × (List UInt8) × Int × Int} (h : raster_Grid_uint8_Turn_c1 F a0 a1 c2 c3 c4 c5 c6 = some r) : ACall Try.prog 58 [.d (.v (.int .i64 a0)),.d (.v (.int .i64 a1)),.bp 1000000 0,.bp 1000001 0,.bp 1000002 0] [.box [.d (.v (.int .i64 c2)),.d (.v (.int .i64 c3)),.d (.sl 1 (c4.map cU))],.box [.d (.v (.int .i64 c5))],.box [.d (.v (.int .i64 c6))]] (.d (.v (.int .u8 r.1))) [.box [.d (.v (.int .i64 r.2.1)),.d (.v (.int .i64 r.2.2.1)),.d (.sl 1 (r.2.2.2.1.map cU))],.box [.d (.v (.int .i64 r.2.2.2.2.1))],.box [.d (.v (.int .i64 r.2.2.2.2.2))]] := by
  rw [raster_Grid_uint8_Turn_c1] at h
  refine ACall.intro (N := 20) Try.func58 rfl rfl rfl rfl rfl fun e => ?_
  refine T_reg [] [0,1,2,3,4,1000000,1000001,1000002] [] [] 1 (by kernel_rfl) (trivial) ?_
  obtain ⟨z1,hz1,h⟩ := lett_ok h
  obtain ⟨hp1,h⟩ := chk_ok h
  refine T_reg [(9,{ rw := some (dI z1) }),(10,{ cs := cU (c4.getD z1.toNat 0) })] [7,1000000,1000001,1000002] [(7,.d (.v (.int .u8 ((c4.getD z1.toNat 0).toNat : Int))))] [(9,(True) ∧ dI (IntKind.i64.wrap ((IntKind.i64.wrap ((IntKind.i64.wrap ((IntKind.i64.wrap (c5 - (1 : Int))) - a0)) * c6)) + a1)) = dI z1),(0,0 ≤ z1 ∧ (c4.map cU)[z1.toNat]? = some (cU (c4.getD z1.toNat 0)))] 2 (by kernel_rfl) (⟨⟨trivial,(by subst hz1; rfl)⟩,idx_ok (d := 0) cU hp1⟩) ?_
  obtain hs := Option.some.inj h; subst hs
  refine T_ret fun a w hm => T_return (fr' := [(7,.d (.v (.int .u8 ((c4.getD z1.toNat 0).toNat : Int)))),(1000000,.box [dI c2,dI c3,.d (.sl 1 (c4.map cU))]),(1000001,.box [dI c5]),(1000002,.box [dI c6])]) [7] (by kernel_rfl) [.keep [7,1000000,1000001,1000002]] (by kernel_rfl) (by kernel_rfl) (by kernel_rfl) (by show _ = _; kernel_rfl) (by exact ⟨⟨by kernel_rfl,by kernel_rfl⟩,⟨⟨by kernel_rfl,by kernel_rfl⟩,⟨⟨by kernel_rfl,by kernel_rfl⟩,trivial⟩⟩⟩) a w hm
theorem raster_build_uint8_v1_ok {F : Nat} {a0 : Int} {a1 : Int} {c2 : Int} {c3 : Int} {c4 : List UInt8} {c5 : Int} {c6 : Int} {r : S_Plate × Int × Int × (List UInt8) × Int × Int} (h : raster_build_uint8_v1 F a0 a1 c2 c3 c4 c5 c6 = some r) : ACall Try.prog 53 [.d (.v (.int .i64 a0)),.d (.v (.int .i64 a1)),.clo 58 [.bp 1000000 0,.bp 1000001 0,.bp 1000002 0]] [.box [.d (.v (.int .i64 c2)),.d (.v (.int .i64 c3)),.d (.sl 1 (c4.map cU))],.box [.d (.v (.int .i64 c5))],.box [.d (.v (.int .i64 c6))]] (.agg (cS_Plate r.1)) [.box [.d (.v (.int .i64 r.2.1)),.d (.v (.int .i64 r.2.2.1)),.d (.sl 1 (r.2.2.2.1.map cU))],.box [.d (.v (.int .i64 r.2.2.2.2.1))],.box [.d (.v (.int .i64 r.2.2.2.2.2))]] := by
  rw [raster_build_uint8_v1] at h
  refine ACall.intro (N := 37) Try.func53 rfl rfl rfl rfl rfl fun e => ?_
  refine T_reg [] [0,1,2,6,1000000,1000001,1000002] [(6,.box [dI 0,dI 0,oW6 []])] [] 1 (by kernel_rfl) (trivial) ?_
  obtain ⟨hp1,h⟩ := chk_ok h
  refine T_region [(5,{ es := some ((List.replicate (0 : Int).toNat 0).map cU) })] [0,1,2,6,7,15,1000000,1000001,1000002] [.claimc 7 2,.keep [0,1,2,6,7,1000000,1000001,1000002]] [(0,dI a0),(1,dI a1),(2,.clo 58 [.bp 1000000 0,.bp 1000001 0,.bp 1000002 0]),(6,.box [dI 0,dI 0,oW6 []]),(7,.box [dI a0,dI a1,.own 5 1 ((List.replicate (0 : Int).toNat 0).map cU)]),(1000000,.box [dI c2,dI c3,.d (.sl 1 (c4.map cU))]),(1000001,.box [dI c5]),(1000002,.box [dI c6])] [(5,(0 ≤ (0 : Int) ∧ (0 : Int) ≤ (IntKind.i64.wrap (a0 * a1)) ∧ (IntKind.i64.wrap (a0 * a1)) ≤ 9223372036854775807 ∧ ((1 : Nat) : Int) * (IntKind.i64.wrap (a0 * a1)) ≤ 281474976710656) ∧ List.replicate (0 : Int).toNat (cU 0) = ((List.replicate (0 : Int).toNat 0).map cU))] 3 (by kernel_rfl) (⟨hp1,repl_ok cU rfl⟩) ?_
  refine T_seqk ?_
  refine T_reg [] [0,2,6,7,17,18,1000000,1000001,1000002] [(17,dI a1),(18,dI (0 : Int))] [] 2 (by kernel_rfl) (trivial) ?_
  refine T_joinct h (fun (p : (List UInt8) × Int × Int × (List UInt8) × Int × Int) => [(6,.box [dI 0,dI 0,oW6 []]),(7,.box [dI a0,dI a1,oW6 p.1]),(1000000,.box [dI p.2.1,dI p.2.2.1,.d (.sl 1 (p.2.2.2.1.map cU))]),(1000001,.box [dI p.2.2.2.2.1]),(1000002,.box [dI p.2.2.2.2.2])]) (fun s h => ?_) (fun s h => ?_)
  · refine T_co [.keep [0,2,6,7,17,18,1000000,1000001,1000002]] ((fun (p : (List UInt8) × Int × Int × Int × (List UInt8) × Int × Int) => [(0,dI a0),(2,.clo 58 [.bp 1000000 0,.bp 1000001 0,.bp 1000002 0]),(6,.box [dI 0,dI 0,oW6 []]),(7,.box [dI a0,dI a1,oW6 p.1]),(17,dI a1),(18,dI p.2.1),(1000000,.box [dI p.2.2.1,dI p.2.2.2.1,.d (.sl 1 (p.2.2.2.2.1.map cU))]),(1000001,.box [dI p.2.2.2.2.2.1]),(1000002,.box [dI p.2.2.2.2.2.2])]) ((List.replicate (0 : Int).toNat 0),(0 : Int),c2,c3,c4,c5,c6)) (by show _ = _; kernel_rfl) ?_
    refine T_block ?_
    refine T_loopF (ι := (List UInt8) × Int × Int × Int × (List UInt8) × Int × Int) (fun (p : (List UInt8) × Int × Int × Int × (List UInt8) × Int × Int) => [(0,dI a0),(2,.clo 58 [.bp 1000000 0,.bp 1000001 0,.bp 1000002 0]),(6,.box [dI 0,dI 0,oW6 []]),(7,.box [dI a0,dI a1,oW6 p.1]),(17,dI a1),(18,dI p.2.1),(1000000,.box [dI p.2.2.1,dI p.2.2.2.1,.d (.sl 1 (p.2.2.2.2.1.map cU))]),(1000001,.box [dI p.2.2.2.2.2.1]),(1000002,.box [dI p.2.2.2.2.2.2])]) (fun n p => raster_build_uint8_v1_L0 F a0 a1 n p.1 p.2.1 p.2.2.1 p.2.2.2.1 p.2.2.2.2.1 p.2.2.2.2.2.1 p.2.2.2.2.2.2 = some s) (fun i hh => by simp [raster_build_uint8_v1_L0] at hh) (fun n p h => ?_) F ((List.replicate (0 : Int).toNat 0),(0 : Int),c2,c3,c4,c5,c6) h
    obtain ⟨v9,v1,v10,v11,v12,v13,v14⟩ := p
    have h : raster_build_uint8_v1_L0 F a0 a1 (n + 1) v9 v1 v10 v11 v12 v13 v14 = some s := h
    rw [raster_build_uint8_v1_L0] at h
    refine T_reg [] [0,2,6,7,17,18,19,1000000,1000001,1000002] [(19,dB (decide (v1 < a1)))] [] 1 (by kernel_rfl) (trivial) ?_
    refine T_seqk ?_
    refine T_cond (decide (v1 < a1)) (by kernel_rfl) (fun hc => ?_) (fun hc => ?_)
    · have h := cond_tt hc h
      refine T_skip fun a w hm => then_norm (((?_ : T Try.prog e 37 _ _ _) a w hm))
      refine T_seqk ?_
      refine T_block ?_
      refine T_reg [] [0,2,6,7,8,17,18,1000000,1000001,1000002] [(8,dI v1)] [] 2 (by kernel_rfl) (trivial) ?_
      refine T_reg [] [0,2,6,7,8,17,18,21,22,1000000,1000001,1000002] [(21,dI a0),(22,dI (0 : Int))] [] 2 (by kernel_rfl) (trivial) ?_
      refine T_joinct h (fun (p : (List UInt8) × Int × Int × (List UInt8) × Int × Int) => [(0,dI a0),(2,.clo 58 [.bp 1000000 0,.bp 1000001 0,.bp 1000002 0]),(6,.box [dI 0,dI 0,oW6 []]),(7,.box [dI a0,dI a1,oW6 p.1]),(17,dI a1),(18,dI v1),(1000000,.box [dI p.2.1,dI p.2.2.1,.d (.sl 1 (p.2.2.2.1.map cU))]),(1000001,.box [dI p.2.2.2.2.1]),(1000002,.box [dI p.2.2.2.2.2])]) (fun s h => ?_) (fun s h => ?_)
      · refine T_co [.keep [0,2,6,7,8,17,18,21,22,1000000,1000001,1000002]] ((fun (p : (List UInt8) × Int × Int × Int × (List UInt8) × Int × Int) => [(0,dI a0),(2,.clo 58 [.bp 1000000 0,.bp 1000001 0,.bp 1000002 0]),(6,.box [dI 0,dI 0,oW6 []]),(7,.box [dI a0,dI a1,oW6 p.1]),(8,dI v1),(17,dI a1),(18,dI v1),(21,dI a0),(22,dI p.2.1),(1000000,.box [dI p.2.2.1,dI p.2.2.2.1,.d (.sl 1 (p.2.2.2.2.1.map cU))]),(1000001,.box [dI p.2.2.2.2.2.1]),(1000002,.box [dI p.2.2.2.2.2.2])]) (v9,(0 : Int),v10,v11,v12,v13,v14)) (by show _ = _; kernel_rfl) ?_
        refine T_block ?_
        refine T_loopF (ι := (List UInt8) × Int × Int × Int × (List UInt8) × Int × Int) (fun (p : (List UInt8) × Int × Int × Int × (List UInt8) × Int × Int) => [(0,dI a0),(2,.clo 58 [.bp 1000000 0,.bp 1000001 0,.bp 1000002 0]),(6,.box [dI 0,dI 0,oW6 []]),(7,.box [dI a0,dI a1,oW6 p.1]),(8,dI v1),(17,dI a1),(18,dI v1),(21,dI a0),(22,dI p.2.1),(1000000,.box [dI p.2.2.1,dI p.2.2.2.1,.d (.sl 1 (p.2.2.2.2.1.map cU))]),(1000001,.box [dI p.2.2.2.2.2.1]),(1000002,.box [dI p.2.2.2.2.2.2])]) (fun n p => raster_build_uint8_v1_L2 F a0 v1 n p.1 p.2.1 p.2.2.1 p.2.2.2.1 p.2.2.2.2.1 p.2.2.2.2.2.1 p.2.2.2.2.2.2 = some s) (fun i hh => by simp [raster_build_uint8_v1_L2] at hh) (fun n p h => ?_) F (v9,(0 : Int),v10,v11,v12,v13,v14) h
        obtain ⟨v2,v3,v4,v5,v6,v7,v8⟩ := p
        have h : raster_build_uint8_v1_L2 F a0 v1 (n + 1) v2 v3 v4 v5 v6 v7 v8 = some s := h
        rw [raster_build_uint8_v1_L2] at h
        refine T_reg [] [0,2,6,7,8,17,18,21,22,23,1000000,1000001,1000002] [(23,dB (decide (v3 < a0)))] [] 1 (by kernel_rfl) (trivial) ?_
        refine T_seqk ?_
        refine T_cond (decide (v3 < a0)) (by kernel_rfl) (fun hc => ?_) (fun hc => ?_)
        · have h := cond_tt hc h
          refine T_skip fun a w hm => then_norm (((?_ : T Try.prog e 37 _ _ _) a w hm))
          refine T_seqk ?_
          refine T_block ?_
          refine T_reg [] [0,2,6,7,8,9,17,18,21,22,1000000,1000001,1000002] [(9,dI v3)] [] 2 (by kernel_rfl) (trivial) ?_
          obtain ⟨y1,hy1,h⟩ := call_ok h
          obtain ⟨hp2,h⟩ := chk_ok h
          obtain ⟨hp3,h⟩ := chk_ok h
          refine T_drawX_end mixed 3 (.take 0 (.take 2 (.take 3 (.take 4 (.all (.alt 1 (.all (.alt 5 (.all (.alt 6 (.all (.alt 7 (.take 8 (.all (.alt 9 .done .stop))) .stop)) .stop)) .stop)) (.alt 5 (.all (.alt 1 (.all (.alt 6 (.all (.alt 7 (.take 8 (.all (.alt 9 .done .stop))) .stop)) .stop)) (.alt 6 (.all (.alt 1 (.all (.alt 7 (.take 8 (.all (.alt 9 .done .stop))) .stop)) .stop)) .stop))) .stop))))))) ([0,1,0,0,0,28,32,98,255,511],[0,1,0,0,0,28,32,66,0,384]) 285 [(5,{ res := .d (.v (.int .u8 y1.1)),vout := [.box [dI y1.2.1,dI y1.2.2.1,.d (.sl 1 (y1.2.2.2.1.map cU))],.box [dI y1.2.2.2.2.1],.box [dI y1.2.2.2.2.2]],xs := [1000000,1000001,1000002] }),(6,{ es := some (([(UInt8.ofNat y1.1.toNat)]).map cU) }),(7,{ es := some ((v2 ++ ([(UInt8.ofNat y1.1.toNat)])).map cU) })] [0,2,6,7,8,17,18,21,22,1000000,1000001,1000002] [] [(0,dI a0),(2,.clo 58 [.bp 1000000 0,.bp 1000001 0,.bp 1000002 0]),(6,.box [dI 0,dI 0,oW6 []]),(7,.box [dI a0,dI a1,.own 5 1 ((v2 ++ ([(UInt8.ofNat y1.1.toNat)])).map cU)]),(8,dI v1),(17,dI a1),(18,dI v1),(21,dI a0),(22,dI v3),(1000000,.box [dI y1.2.1,dI y1.2.2.1,.d (.sl 1 (y1.2.2.2.1.map cU))]),(1000001,.box [dI y1.2.2.2.2.1]),(1000002,.box [dI y1.2.2.2.2.2])] ((fun (o5 : Prop) => fun (o6 : Prop) => fun (o7 : Prop) => [(5,o5),(0,o6),(0,o7),(2,o5),(1,o6),(0,o7),(2,o6),(1,o7)]) (ACall Try.prog 58 [dI v3,dI v1,.bp 1000000 0,.bp 1000001 0,.bp 1000002 0] [.box [dI v4,dI v5,.d (.sl 1 (v6.map cU))],.box [dI v7],.box [dI v8]] (.d (.v (.int .u8 y1.1))) [.box [dI y1.2.1,dI y1.2.2.1,.d (.sl 1 (y1.2.2.2.1.map cU))],.box [dI y1.2.2.2.2.1],.box [dI y1.2.2.2.2.2]]) ([[Dat.v (.int .u8 y1.1)]] = (([(UInt8.ofNat y1.1.toNat)]).map cU)) ((v2.map cU).length + (([(UInt8.ofNat y1.1.toNat)]).map cU).length ≤ 4294967296 ∧ (v2.map cU) ++ (([(UInt8.ofNat y1.1.toNat)]).map cU) = ((v2 ++ ([(UInt8.ofNat y1.1.toNat)])).map cU))) 2 (by kernel_rfl) (by kernel_rfl) (by kernel_rfl) (have p5 := raster_Grid_uint8_Turn_c1_ok hy1; have p6 := (lit_u hp2 (rfl : ([] : List (List Dat)) = ([] : List UInt8).map cU)); have p7 := app_ok cU hp3; ⟨p5,p6,p7,p5,p6,p7,p6,p7⟩) fun a w hm => inBlock_norm (then_norm (((?_ : T Try.prog e 37 _ _ _) a w hm)))
          refine T_reg_end [] [0,2,6,7,8,17,18,21,22,1000000,1000001,1000002] [(22,dI (IntKind.i64.wrap (v3 + (1 : Int))))] [] 2 (by kernel_rfl) (trivial) fun a w hm => then_norm (⟨((v2 ++ ([(UInt8.ofNat y1.1.toNat)])),IntKind.i64.wrap (v3 + (1 : Int)),y1.2.1,y1.2.2.1,y1.2.2.2.1,y1.2.2.2.2.1,y1.2.2.2.2.2),h,hm.co (cs := [.keep [0,2,6,7,8,17,18,21,22,1000000,1000001,1000002]]) (by show _ = _; kernel_rfl)⟩)
        · have h := cond_ff hc h
          obtain hs := Option.some.inj h; subst hs
          refine T_exit fun a w hm => then_exit (then_exit (inBlock_exit (then_norm (hm.co (cs := [.keep [0,2,6,7,17,18,1000000,1000001,1000002]]) (by show _ = _; kernel_rfl)))))
      · obtain ⟨v15,v16,v17,v18,v19,v20⟩ := s
        try dsimp only at h
        refine fun a w hm => inBlock_norm (then_norm (((?_ : T Try.prog e 37 _ _ _) a w hm)))
        refine T_reg_end [] [0,2,6,7,17,18,1000000,1000001,1000002] [(18,dI (IntKind.i64.wrap (v1 + (1 : Int))))] [] 2 (by kernel_rfl) (trivial) fun a w hm => then_norm (⟨(v15,IntKind.i64.wrap (v1 + (1 : Int)),v16,v17,v18,v19,v20),h,hm.co (cs := [.keep [0,2,6,7,17,18,1000000,1000001,1000002]]) (by show _ = _; kernel_rfl)⟩)
    · have h := cond_ff hc h
      obtain hs := Option.some.inj h; subst hs
      refine T_exit fun a w hm => then_exit (then_exit (inBlock_exit (then_norm (hm.co (cs := [.keep [6,7,1000000,1000001,1000002]]) (by show _ = _; kernel_rfl)))))
  · obtain ⟨v21,v22,v23,v24,v25,v26⟩ := s
    try dsimp only at h
    refine fun a w hm => then_norm (((?_ : T Try.prog e 37 _ _ _) a w hm))
    refine T_reg [(0,{ frz := [(7,3)] })] [6,1000000,1000001,1000002] [(6,.box [dI a0,dI a1,.d (.sl 1 (v21.map cU))])] [] 2 (by kernel_rfl) (trivial) ?_
    obtain hs := Option.some.inj h; subst hs
    refine T_ret fun a w hm => T_returnC (fr' := [(6,.box [dI a0,dI a1,.d (.sl 1 (v21.map cU))]),(1000000,.box [dI v22,dI v23,.d (.sl 1 (v24.map cU))]),(1000001,.box [dI v25]),(1000002,.box [dI v26])]) (ts := [37]) (N' := 38) (fr2 := [(37,.agg (cS_Plate (S_Plate.mk a0 a1 v21)))] ++ [(6,.box [dI a0,dI a1,.d (.sl 1 (v21.map cU))]),(1000000,.box [dI v22,dI v23,.d (.sl 1 (v24.map cU))]),(1000001,.box [dI v25]),(1000002,.box [dI v26])]) [.keep [6,1000000,1000001,1000002]] (by kernel_rfl) (by kernel_rfl) (by kernel_rfl) (by kernel_rfl) (by show _ = _; kernel_rfl) (by exact ⟨⟨by kernel_rfl,by kernel_rfl⟩,⟨⟨by kernel_rfl,by kernel_rfl⟩,⟨⟨by kernel_rfl,by kernel_rfl⟩,trivial⟩⟩⟩) a w hm
theorem raster_Grid_uint8_Turn_c2_ok {F : Nat} {a0 : Int} {a1 : Int} {c2 : Int} {c3 : Int} {c4 : List UInt8} {c5 : Int} {c6 : Int} {r : Int × Int × Int × (List UInt8) × Int × Int} (h : raster_Grid_uint8_Turn_c2 F a0 a1 c2 c3 c4 c5 c6 = some r) : ACall Try.prog 59 [.d (.v (.int .i64 a0)),.d (.v (.int .i64 a1)),.bp 1000000 0,.bp 1000001 0,.bp 1000002 0] [.box [.d (.v (.int .i64 c2)),.d (.v (.int .i64 c3)),.d (.sl 1 (c4.map cU))],.box [.d (.v (.int .i64 c5))],.box [.d (.v (.int .i64 c6))]] (.d (.v (.int .u8 r.1))) [.box [.d (.v (.int .i64 r.2.1)),.d (.v (.int .i64 r.2.2.1)),.d (.sl 1 (r.2.2.2.1.map cU))],.box [.d (.v (.int .i64 r.2.2.2.2.1))],.box [.d (.v (.int .i64 r.2.2.2.2.2))]] := by
  rw [raster_Grid_uint8_Turn_c2] at h
  refine ACall.intro (N := 23) Try.func59 rfl rfl rfl rfl rfl fun e => ?_
  refine T_reg [] [0,1,2,3,4,1000000,1000001,1000002] [] [] 1 (by kernel_rfl) (trivial) ?_
  obtain ⟨z1,hz1,h⟩ := lett_ok h
  obtain ⟨hp1,h⟩ := chk_ok h
  refine T_reg [(9,{ rw := some (dI z1) }),(13,{ cs := cU (c4.getD (IntKind.i64.wrap ((IntKind.i64.wrap (z1 - (1 : Int))) - a0)).toNat 0) })] [7,1000000,1000001,1000002] [(7,.d (.v (.int .u8 ((c4.getD (IntKind.i64.wrap ((IntKind.i64.wrap (z1 - (1 : Int))) - a0)).toNat 0).toNat : Int))))] [(9,(True) ∧ dI (IntKind.i64.wrap ((IntKind.i64.wrap ((IntKind.i64.wrap ((IntKind.i64.wrap (c5 - (1 : Int))) - a1)) * c6)) + c6)) = dI z1),(3,0 ≤ (IntKind.i64.wrap ((IntKind.i64.wrap (z1 - (1 : Int))) - a0)) ∧ (c4.map cU)[(IntKind.i64.wrap ((IntKind.i64.wrap (z1 - (1 : Int))) - a0)).toNat]? = some (cU (c4.getD (IntKind.i64.wrap ((IntKind.i64.wrap (z1 - (1 : Int))) - a0)).toNat 0)))] 2 (by kernel_rfl) (⟨⟨trivial,(by subst hz1; rfl)⟩,idx_ok (d := 0) cU hp1⟩) ?_
  obtain hs := Option.some.inj h; subst hs
  refine T_ret fun a w hm => T_return (fr' := [(7,.d (.v (.int .u8 ((c4.getD (IntKind.i64.wrap ((IntKind.i64.wrap (z1 - (1 : Int))) - a0)).toNat 0).toNat : Int)))),(1000000,.box [dI c2,dI c3,.d (.sl 1 (c4.map cU))]),(1000001,.box [dI c5]),(1000002,.box [dI c6])]) [7] (by kernel_rfl) [.keep [7,1000000,1000001,1000002]] (by kernel_rfl) (by kernel_rfl) (by kernel_rfl) (by show _ = _; kernel_rfl) (by exact ⟨⟨by kernel_rfl,by kernel_rfl⟩,⟨⟨by kernel_rfl,by kernel_rfl⟩,⟨⟨by kernel_rfl,by kernel_rfl⟩,trivial⟩⟩⟩) a w hm
theorem raster_build_uint8_v2_ok {F : Nat} {a0 : Int} {a1 : Int} {c2 : Int} {c3 : Int} {c4 : List UInt8} {c5 : Int} {c6 : Int} {r : S_Plate × Int × Int × (List UInt8) × Int × Int} (h : raster_build_uint8_v2 F a0 a1 c2 c3 c4 c5 c6 = some r) : ACall Try.prog 53 [.d (.v (.int .i64 a0)),.d (.v (.int .i64 a1)),.clo 59 [.bp 1000000 0,.bp 1000001 0,.bp 1000002 0]] [.box [.d (.v (.int .i64 c2)),.d (.v (.int .i64 c3)),.d (.sl 1 (c4.map cU))],.box [.d (.v (.int .i64 c5))],.box [.d (.v (.int .i64 c6))]] (.agg (cS_Plate r.1)) [.box [.d (.v (.int .i64 r.2.1)),.d (.v (.int .i64 r.2.2.1)),.d (.sl 1 (r.2.2.2.1.map cU))],.box [.d (.v (.int .i64 r.2.2.2.2.1))],.box [.d (.v (.int .i64 r.2.2.2.2.2))]] := by
  rw [raster_build_uint8_v2] at h
  refine ACall.intro (N := 37) Try.func53 rfl rfl rfl rfl rfl fun e => ?_
  refine T_reg [] [0,1,2,6,1000000,1000001,1000002] [(6,.box [dI 0,dI 0,oW6 []])] [] 1 (by kernel_rfl) (trivial) ?_
  obtain ⟨hp1,h⟩ := chk_ok h
  refine T_region [(5,{ es := some ((List.replicate (0 : Int).toNat 0).map cU) })] [0,1,2,6,7,15,1000000,1000001,1000002] [.claimc 7 2,.keep [0,1,2,6,7,1000000,1000001,1000002]] [(0,dI a0),(1,dI a1),(2,.clo 59 [.bp 1000000 0,.bp 1000001 0,.bp 1000002 0]),(6,.box [dI 0,dI 0,oW6 []]),(7,.box [dI a0,dI a1,.own 5 1 ((List.replicate (0 : Int).toNat 0).map cU)]),(1000000,.box [dI c2,dI c3,.d (.sl 1 (c4.map cU))]),(1000001,.box [dI c5]),(1000002,.box [dI c6])] [(5,(0 ≤ (0 : Int) ∧ (0 : Int) ≤ (IntKind.i64.wrap (a0 * a1)) ∧ (IntKind.i64.wrap (a0 * a1)) ≤ 9223372036854775807 ∧ ((1 : Nat) : Int) * (IntKind.i64.wrap (a0 * a1)) ≤ 281474976710656) ∧ List.replicate (0 : Int).toNat (cU 0) = ((List.replicate (0 : Int).toNat 0).map cU))] 3 (by kernel_rfl) (⟨hp1,repl_ok cU rfl⟩) ?_
  refine T_seqk ?_
  refine T_reg [] [0,2,6,7,17,18,1000000,1000001,1000002] [(17,dI a1),(18,dI (0 : Int))] [] 2 (by kernel_rfl) (trivial) ?_
  refine T_joinct h (fun (p : (List UInt8) × Int × Int × (List UInt8) × Int × Int) => [(6,.box [dI 0,dI 0,oW6 []]),(7,.box [dI a0,dI a1,oW6 p.1]),(1000000,.box [dI p.2.1,dI p.2.2.1,.d (.sl 1 (p.2.2.2.1.map cU))]),(1000001,.box [dI p.2.2.2.2.1]),(1000002,.box [dI p.2.2.2.2.2])]) (fun s h => ?_) (fun s h => ?_)
  · refine T_co [.keep [0,2,6,7,17,18,1000000,1000001,1000002]] ((fun (p : (List UInt8) × Int × Int × Int × (List UInt8) × Int × Int) => [(0,dI a0),(2,.clo 59 [.bp 1000000 0,.bp 1000001 0,.bp 1000002 0]),(6,.box [dI 0,dI 0,oW6 []]),(7,.box [dI a0,dI a1,oW6 p.1]),(17,dI a1),(18,dI p.2.1),(1000000,.box [dI p.2.2.1,dI p.2.2.2.1,.d (.sl 1 (p.2.2.2.2.1.map cU))]),(1000001,.box [dI p.2.2.2.2.2.1]),(1000002,.box [dI p.2.2.2.2.2.2])]) ((List.replicate (0 : Int).toNat 0),(0 : Int),c2,c3,c4,c5,c6)) (by show _ = _; kernel_rfl) ?_
    refine T_block ?_
    refine T_loopF (ι := (List UInt8) × Int × Int × Int × (List UInt8) × Int × Int) (fun (p : (List UInt8) × Int × Int × Int × (List UInt8) × Int × Int) => [(0,dI a0),(2,.clo 59 [.bp 1000000 0,.bp 1000001 0,.bp 1000002 0]),(6,.box [dI 0,dI 0,oW6 []]),(7,.box [dI a0,dI a1,oW6 p.1]),(17,dI a1),(18,dI p.2.1),(1000000,.box [dI p.2.2.1,dI p.2.2.2.1,.d (.sl 1 (p.2.2.2.2.1.map cU))]),(1000001,.box [dI p.2.2.2.2.2.1]),(1000002,.box [dI p.2.2.2.2.2.2])]) (fun n p => raster_build_uint8_v2_L0 F a0 a1 n p.1 p.2.1 p.2.2.1 p.2.2.2.1 p.2.2.2.2.1 p.2.2.2.2.2.1 p.2.2.2.2.2.2 = some s) (fun i hh => by simp [raster_build_uint8_v2_L0] at hh) (fun n p h => ?_) F ((List.replicate (0 : Int).toNat 0),(0 : Int),c2,c3,c4,c5,c6) h
    obtain ⟨v9,v1,v10,v11,v12,v13,v14⟩ := p
    have h : raster_build_uint8_v2_L0 F a0 a1 (n + 1) v9 v1 v10 v11 v12 v13 v14 = some s := h
    rw [raster_build_uint8_v2_L0] at h
    refine T_reg [] [0,2,6,7,17,18,19,1000000,1000001,1000002] [(19,dB (decide (v1 < a1)))] [] 1 (by kernel_rfl) (trivial) ?_
    refine T_seqk ?_
    refine T_cond (decide (v1 < a1)) (by kernel_rfl) (fun hc => ?_) (fun hc => ?_)
    · have h := cond_tt hc h
      refine T_skip fun a w hm => then_norm (((?_ : T Try.prog e 37 _ _ _) a w hm))
      refine T_seqk ?_
      refine T_block ?_
      refine T_reg [] [0,2,6,7,8,17,18,1000000,1000001,1000002] [(8,dI v1)] [] 2 (by kernel_rfl) (trivial) ?_
      refine T_reg [] [0,2,6,7,8,17,18,21,22,1000000,1000001,1000002] [(21,dI a0),(22,dI (0 : Int))] [] 2 (by kernel_rfl) (trivial) ?_
      refine T_joinct h (fun (p : (List UInt8) × Int × Int × (List UInt8) × Int × Int) => [(0,dI a0),(2,.clo 59 [.bp 1000000 0,.bp 1000001 0,.bp 1000002 0]),(6,.box [dI 0,dI 0,oW6 []]),(7,.box [dI a0,dI a1,oW6 p.1]),(17,dI a1),(18,dI v1),(1000000,.box [dI p.2.1,dI p.2.2.1,.d (.sl 1 (p.2.2.2.1.map cU))]),(1000001,.box [dI p.2.2.2.2.1]),(1000002,.box [dI p.2.2.2.2.2])]) (fun s h => ?_) (fun s h => ?_)
      · refine T_co [.keep [0,2,6,7,8,17,18,21,22,1000000,1000001,1000002]] ((fun (p : (List UInt8) × Int × Int × Int × (List UInt8) × Int × Int) => [(0,dI a0),(2,.clo 59 [.bp 1000000 0,.bp 1000001 0,.bp 1000002 0]),(6,.box [dI 0,dI 0,oW6 []]),(7,.box [dI a0,dI a1,oW6 p.1]),(8,dI v1),(17,dI a1),(18,dI v1),(21,dI a0),(22,dI p.2.1),(1000000,.box [dI p.2.2.1,dI p.2.2.2.1,.d (.sl 1 (p.2.2.2.2.1.map cU))]),(1000001,.box [dI p.2.2.2.2.2.1]),(1000002,.box [dI p.2.2.2.2.2.2])]) (v9,(0 : Int),v10,v11,v12,v13,v14)) (by show _ = _; kernel_rfl) ?_
        refine T_block ?_
        refine T_loopF (ι := (List UInt8) × Int × Int × Int × (List UInt8) × Int × Int) (fun (p : (List UInt8) × Int × Int × Int × (List UInt8) × Int × Int) => [(0,dI a0),(2,.clo 59 [.bp 1000000 0,.bp 1000001 0,.bp 1000002 0]),(6,.box [dI 0,dI 0,oW6 []]),(7,.box [dI a0,dI a1,oW6 p.1]),(8,dI v1),(17,dI a1),(18,dI v1),(21,dI a0),(22,dI p.2.1),(1000000,.box [dI p.2.2.1,dI p.2.2.2.1,.d (.sl 1 (p.2.2.2.2.1.map cU))]),(1000001,.box [dI p.2.2.2.2.2.1]),(1000002,.box [dI p.2.2.2.2.2.2])]) (fun n p => raster_build_uint8_v2_L2 F a0 v1 n p.1 p.2.1 p.2.2.1 p.2.2.2.1 p.2.2.2.2.1 p.2.2.2.2.2.1 p.2.2.2.2.2.2 = some s) (fun i hh => by simp [raster_build_uint8_v2_L2] at hh) (fun n p h => ?_) F (v9,(0 : Int),v10,v11,v12,v13,v14) h
        obtain ⟨v2,v3,v4,v5,v6,v7,v8⟩ := p
        have h : raster_build_uint8_v2_L2 F a0 v1 (n + 1) v2 v3 v4 v5 v6 v7 v8 = some s := h
        rw [raster_build_uint8_v2_L2] at h
        refine T_reg [] [0,2,6,7,8,17,18,21,22,23,1000000,1000001,1000002] [(23,dB (decide (v3 < a0)))] [] 1 (by kernel_rfl) (trivial) ?_
        refine T_seqk ?_
        refine T_cond (decide (v3 < a0)) (by kernel_rfl) (fun hc => ?_) (fun hc => ?_)
        · have h := cond_tt hc h
          refine T_skip fun a w hm => then_norm (((?_ : T Try.prog e 37 _ _ _) a w hm))
          refine T_seqk ?_
          refine T_block ?_
          refine T_reg [] [0,2,6,7,8,9,17,18,21,22,1000000,1000001,1000002] [(9,dI v3)] [] 2 (by kernel_rfl) (trivial) ?_
          obtain ⟨y1,hy1,h⟩ := call_ok h
          obtain ⟨hp2,h⟩ := chk_ok h
          obtain ⟨hp3,h⟩ := chk_ok h
          refine T_drawX_end mixed 3 (.take 0 (.take 2 (.take 3 (.take 4 (.all (.alt 1 (.all (.alt 5 (.all (.alt 6 (.all (.alt 7 (.take 8 (.all (.alt 9 .done .stop))) .stop)) .stop)) .stop)) (.alt 5 (.all (.alt 1 (.all (.alt 6 (.all (.alt 7 (.take 8 (.all (.alt 9 .done .stop))) .stop)) .stop)) (.alt 6 (.all (.alt 1 (.all (.alt 7 (.take 8 (.all (.alt 9 .done .stop))) .stop)) .stop)) .stop))) .stop))))))) ([0,1,0,0,0,28,32,98,255,511],[0,1,0,0,0,28,32,66,0,384]) 285 [(5,{ res := .d (.v (.int .u8 y1.1)),vout := [.box [dI y1.2.1,dI y1.2.2.1,.d (.sl 1 (y1.2.2.2.1.map cU))],.box [dI y1.2.2.2.2.1],.box [dI y1.2.2.2.2.2]],xs := [1000000,1000001,1000002] }),(6,{ es := some (([(UInt8.ofNat y1.1.toNat)]).map cU) }),(7,{ es := some ((v2 ++ ([(UInt8.ofNat y1.1.toNat)])).map cU) })] [0,2,6,7,8,17,18,21,22,1000000,1000001,1000002] [] [(0,dI a0),(2,.clo 59 [.bp 1000000 0,.bp 1000001 0,.bp 1000002 0]),(6,.box [dI 0,dI 0,oW6 []]),(7,.box [dI a0,dI a1,.own 5 1 ((v2 ++ ([(UInt8.ofNat y1.1.toNat)])).map cU)]),(8,dI v1),(17,dI a1),(18,dI v1),(21,dI a0),(22,dI v3),(1000000,.box [dI y1.2.1,dI y1.2.2.1,.d (.sl 1 (y1.2.2.2.1.map cU))]),(1000001,.box [dI y1.2.2.2.2.1]),(1000002,.box [dI y1.2.2.2.2.2])] ((fun (o5 : Prop) => fun (o6 : Prop) => fun (o7 : Prop) => [(5,o5),(0,o6),(0,o7),(2,o5),(1,o6),(0,o7),(2,o6),(1,o7)]) (ACall Try.prog 59 [dI v3,dI v1,.bp 1000000 0,.bp 1000001 0,.bp 1000002 0] [.box [dI v4,dI v5,.d (.sl 1 (v6.map cU))],.box [dI v7],.box [dI v8]] (.d (.v (.int .u8 y1.1))) [.box [dI y1.2.1,dI y1.2.2.1,.d (.sl 1 (y1.2.2.2.1.map cU))],.box [dI y1.2.2.2.2.1],.box [dI y1.2.2.2.2.2]]) ([[Dat.v (.int .u8 y1.1)]] = (([(UInt8.ofNat y1.1.toNat)]).map cU)) ((v2.map cU).length + (([(UInt8.ofNat y1.1.toNat)]).map cU).length ≤ 4294967296 ∧ (v2.map cU) ++ (([(UInt8.ofNat y1.1.toNat)]).map cU) = ((v2 ++ ([(UInt8.ofNat y1.1.toNat)])).map cU))) 2 (by kernel_rfl) (by kernel_rfl) (by kernel_rfl) (have p5 := raster_Grid_uint8_Turn_c2_ok hy1; have p6 := (lit_u hp2 (rfl : ([] : List (List Dat)) = ([] : List UInt8).map cU)); have p7 := app_ok cU hp3; ⟨p5,p6,p7,p5,p6,p7,p6,p7⟩) fun a w hm => inBlock_norm (then_norm (((?_ : T Try.prog e 37 _ _ _) a w hm)))
          refine T_reg_end [] [0,2,6,7,8,17,18,21,22,1000000,1000001,1000002] [(22,dI (IntKind.i64.wrap (v3 + (1 : Int))))] [] 2 (by kernel_rfl) (trivial) fun a w hm => then_norm (⟨((v2 ++ ([(UInt8.ofNat y1.1.toNat)])),IntKind.i64.wrap (v3 + (1 : Int)),y1.2.1,y1.2.2.1,y1.2.2.2.1,y1.2.2.2.2.1,y1.2.2.2.2.2),h,hm.co (cs := [.keep [0,2,6,7,8,17,18,21,22,1000000,1000001,1000002]]) (by show _ = _; kernel_rfl)⟩)
        · have h := cond_ff hc h
          obtain hs := Option.some.inj h; subst hs
          refine T_exit fun a w hm => then_exit (then_exit (inBlock_exit (then_norm (hm.co (cs := [.keep [0,2,6,7,17,18,1000000,1000001,1000002]]) (by show _ = _; kernel_rfl)))))
      · obtain ⟨v15,v16,v17,v18,v19,v20⟩ := s
        try dsimp only at h
        refine fun a w hm => inBlock_norm (then_norm (((?_ : T Try.prog e 37 _ _ _) a w hm)))
        refine T_reg_end [] [0,2,6,7,17,18,1000000,1000001,1000002] [(18,dI (IntKind.i64.wrap (v1 + (1 : Int))))] [] 2 (by kernel_rfl) (trivial) fun a w hm => then_norm (⟨(v15,IntKind.i64.wrap (v1 + (1 : Int)),v16,v17,v18,v19,v20),h,hm.co (cs := [.keep [0,2,6,7,17,18,1000000,1000001,1000002]]) (by show _ = _; kernel_rfl)⟩)
    · have h := cond_ff hc h
      obtain hs := Option.some.inj h; subst hs
      refine T_exit fun a w hm => then_exit (then_exit (inBlock_exit (then_norm (hm.co (cs := [.keep [6,7,1000000,1000001,1000002]]) (by show _ = _; kernel_rfl)))))
  · obtain ⟨v21,v22,v23,v24,v25,v26⟩ := s
    try dsimp only at h
    refine fun a w hm => then_norm (((?_ : T Try.prog e 37 _ _ _) a w hm))
    refine T_reg [(0,{ frz := [(7,3)] })] [6,1000000,1000001,1000002] [(6,.box [dI a0,dI a1,.d (.sl 1 (v21.map cU))])] [] 2 (by kernel_rfl) (trivial) ?_
    obtain hs := Option.some.inj h; subst hs
    refine T_ret fun a w hm => T_returnC (fr' := [(6,.box [dI a0,dI a1,.d (.sl 1 (v21.map cU))]),(1000000,.box [dI v22,dI v23,.d (.sl 1 (v24.map cU))]),(1000001,.box [dI v25]),(1000002,.box [dI v26])]) (ts := [37]) (N' := 38) (fr2 := [(37,.agg (cS_Plate (S_Plate.mk a0 a1 v21)))] ++ [(6,.box [dI a0,dI a1,.d (.sl 1 (v21.map cU))]),(1000000,.box [dI v22,dI v23,.d (.sl 1 (v24.map cU))]),(1000001,.box [dI v25]),(1000002,.box [dI v26])]) [.keep [6,1000000,1000001,1000002]] (by kernel_rfl) (by kernel_rfl) (by kernel_rfl) (by kernel_rfl) (by show _ = _; kernel_rfl) (by exact ⟨⟨by kernel_rfl,by kernel_rfl⟩,⟨⟨by kernel_rfl,by kernel_rfl⟩,⟨⟨by kernel_rfl,by kernel_rfl⟩,trivial⟩⟩⟩) a w hm
theorem raster_Grid_uint8_Turn_c3_ok {F : Nat} {a0 : Int} {a1 : Int} {c2 : Int} {c3 : Int} {c4 : List UInt8} {c5 : Int} {r : Int × Int × Int × (List UInt8) × Int} (h : raster_Grid_uint8_Turn_c3 F a0 a1 c2 c3 c4 c5 = some r) : ACall Try.prog 60 [.d (.v (.int .i64 a0)),.d (.v (.int .i64 a1)),.bp 1000000 0,.bp 1000001 0] [.box [.d (.v (.int .i64 c2)),.d (.v (.int .i64 c3)),.d (.sl 1 (c4.map cU))],.box [.d (.v (.int .i64 c5))]] (.d (.v (.int .u8 r.1))) [.box [.d (.v (.int .i64 r.2.1)),.d (.v (.int .i64 r.2.2.1)),.d (.sl 1 (r.2.2.2.1.map cU))],.box [.d (.v (.int .i64 r.2.2.2.2))]] := by
  rw [raster_Grid_uint8_Turn_c3] at h
  refine ACall.intro (N := 19) Try.func60 rfl rfl rfl rfl rfl fun e => ?_
  refine T_reg [] [0,1,2,3,1000000,1000001] [] [] 1 (by kernel_rfl) (trivial) ?_
  obtain ⟨z1,hz1,h⟩ := lett_ok h
  obtain ⟨hp1,h⟩ := chk_ok h
  refine T_reg [(9,{ rw := some (dI z1) }),(10,{ cs := cU (c4.getD z1.toNat 0) })] [6,1000000,1000001] [(6,.d (.v (.int .u8 ((c4.getD z1.toNat 0).toNat : Int))))] [(9,(True) ∧ dI (IntKind.i64.wrap ((IntKind.i64.wrap ((IntKind.i64.wrap ((IntKind.i64.wrap (a0 * c5)) + c5)) - (1 : Int))) - a1)) = dI z1),(0,0 ≤ z1 ∧ (c4.map cU)[z1.toNat]? = some (cU (c4.getD z1.toNat 0)))] 2 (by kernel_rfl) (⟨⟨trivial,(by subst hz1; rfl)⟩,idx_ok (d := 0) cU hp1⟩) ?_
  obtain hs := Option.some.inj h; subst hs
  refine T_ret fun a w hm => T_return (fr' := [(6,.d (.v (.int .u8 ((c4.getD z1.toNat 0).toNat : Int)))),(1000000,.box [dI c2,dI c3,.d (.sl 1 (c4.map cU))]),(1000001,.box [dI c5])]) [6] (by kernel_rfl) [.keep [6,1000000,1000001]] (by kernel_rfl) (by kernel_rfl) (by kernel_rfl) (by show _ = _; kernel_rfl) (by exact ⟨⟨by kernel_rfl,by kernel_rfl⟩,⟨⟨by kernel_rfl,by kernel_rfl⟩,trivial⟩⟩) a w hm
theorem raster_build_uint8_v3_ok {F : Nat} {a0 : Int} {a1 : Int} {c2 : Int} {c3 : Int} {c4 : List UInt8} {c5 : Int} {r : S_Plate × Int × Int × (List UInt8) × Int} (h : raster_build_uint8_v3 F a0 a1 c2 c3 c4 c5 = some r) : ACall Try.prog 53 [.d (.v (.int .i64 a0)),.d (.v (.int .i64 a1)),.clo 60 [.bp 1000000 0,.bp 1000001 0]] [.box [.d (.v (.int .i64 c2)),.d (.v (.int .i64 c3)),.d (.sl 1 (c4.map cU))],.box [.d (.v (.int .i64 c5))]] (.agg (cS_Plate r.1)) [.box [.d (.v (.int .i64 r.2.1)),.d (.v (.int .i64 r.2.2.1)),.d (.sl 1 (r.2.2.2.1.map cU))],.box [.d (.v (.int .i64 r.2.2.2.2))]] := by
  rw [raster_build_uint8_v3] at h
  refine ACall.intro (N := 37) Try.func53 rfl rfl rfl rfl rfl fun e => ?_
  refine T_reg [] [0,1,2,6,1000000,1000001] [(6,.box [dI 0,dI 0,oW6 []])] [] 1 (by kernel_rfl) (trivial) ?_
  obtain ⟨hp1,h⟩ := chk_ok h
  refine T_region [(5,{ es := some ((List.replicate (0 : Int).toNat 0).map cU) })] [0,1,2,6,7,15,1000000,1000001] [.claimc 7 2,.keep [0,1,2,6,7,1000000,1000001]] [(0,dI a0),(1,dI a1),(2,.clo 60 [.bp 1000000 0,.bp 1000001 0]),(6,.box [dI 0,dI 0,oW6 []]),(7,.box [dI a0,dI a1,.own 5 1 ((List.replicate (0 : Int).toNat 0).map cU)]),(1000000,.box [dI c2,dI c3,.d (.sl 1 (c4.map cU))]),(1000001,.box [dI c5])] [(5,(0 ≤ (0 : Int) ∧ (0 : Int) ≤ (IntKind.i64.wrap (a0 * a1)) ∧ (IntKind.i64.wrap (a0 * a1)) ≤ 9223372036854775807 ∧ ((1 : Nat) : Int) * (IntKind.i64.wrap (a0 * a1)) ≤ 281474976710656) ∧ List.replicate (0 : Int).toNat (cU 0) = ((List.replicate (0 : Int).toNat 0).map cU))] 3 (by kernel_rfl) (⟨hp1,repl_ok cU rfl⟩) ?_
  refine T_seqk ?_
  refine T_reg [] [0,2,6,7,17,18,1000000,1000001] [(17,dI a1),(18,dI (0 : Int))] [] 2 (by kernel_rfl) (trivial) ?_
  refine T_joinct h (fun (p : (List UInt8) × Int × Int × (List UInt8) × Int) => [(6,.box [dI 0,dI 0,oW6 []]),(7,.box [dI a0,dI a1,oW6 p.1]),(1000000,.box [dI p.2.1,dI p.2.2.1,.d (.sl 1 (p.2.2.2.1.map cU))]),(1000001,.box [dI p.2.2.2.2])]) (fun s h => ?_) (fun s h => ?_)
  · refine T_co [.keep [0,2,6,7,17,18,1000000,1000001]] ((fun (p : (List UInt8) × Int × Int × Int × (List UInt8) × Int) => [(0,dI a0),(2,.clo 60 [.bp 1000000 0,.bp 1000001 0]),(6,.box [dI 0,dI 0,oW6 []]),(7,.box [dI a0,dI a1,oW6 p.1]),(17,dI a1),(18,dI p.2.1),(1000000,.box [dI p.2.2.1,dI p.2.2.2.1,.d (.sl 1 (p.2.2.2.2.1.map cU))]),(1000001,.box [dI p.2.2.2.2.2])]) ((List.replicate (0 : Int).toNat 0),(0 : Int),c2,c3,c4,c5)) (by show _ = _; kernel_rfl) ?_
    refine T_block ?_
    refine T_loopF (ι := (List UInt8) × Int × Int × Int × (List UInt8) × Int) (fun (p : (List UInt8) × Int × Int × Int × (List UInt8) × Int) => [(0,dI a0),(2,.clo 60 [.bp 1000000 0,.bp 1000001 0]),(6,.box [dI 0,dI 0,oW6 []]),(7,.box [dI a0,dI a1,oW6 p.1]),(17,dI a1),(18,dI p.2.1),(1000000,.box [dI p.2.2.1,dI p.2.2.2.1,.d (.sl 1 (p.2.2.2.2.1.map cU))]),(1000001,.box [dI p.2.2.2.2.2])]) (fun n p => raster_build_uint8_v3_L0 F a0 a1 n p.1 p.2.1 p.2.2.1 p.2.2.2.1 p.2.2.2.2.1 p.2.2.2.2.2 = some s) (fun i hh => by simp [raster_build_uint8_v3_L0] at hh) (fun n p h => ?_) F ((List.replicate (0 : Int).toNat 0),(0 : Int),c2,c3,c4,c5) h
    obtain ⟨v8,v1,v9,v10,v11,v12⟩ := p
    have h : raster_build_uint8_v3_L0 F a0 a1 (n + 1) v8 v1 v9 v10 v11 v12 = some s := h
    rw [raster_build_uint8_v3_L0] at h
    refine T_reg [] [0,2,6,7,17,18,19,1000000,1000001] [(19,dB (decide (v1 < a1)))] [] 1 (by kernel_rfl) (trivial) ?_
    refine T_seqk ?_
    refine T_cond (decide (v1 < a1)) (by kernel_rfl) (fun hc => ?_) (fun hc => ?_)
    · have h := cond_tt hc h
      refine T_skip fun a w hm => then_norm (((?_ : T Try.prog e 37 _ _ _) a w hm))
      refine T_seqk ?_
      refine T_block ?_
      refine T_reg [] [0,2,6,7,8,17,18,1000000,1000001] [(8,dI v1)] [] 2 (by kernel_rfl) (trivial) ?_
      refine T_reg [] [0,2,6,7,8,17,18,21,22,1000000,1000001] [(21,dI a0),(22,dI (0 : Int))] [] 2 (by kernel_rfl) (trivial) ?_
      refine T_joinct h (fun (p : (List UInt8) × Int × Int × (List UInt8) × Int) => [(0,dI a0),(2,.clo 60 [.bp 1000000 0,.bp 1000001 0]),(6,.box [dI 0,dI 0,oW6 []]),(7,.box [dI a0,dI a1,oW6 p.1]),(17,dI a1),(18,dI v1),(1000000,.box [dI p.2.1,dI p.2.2.1,.d (.sl 1 (p.2.2.2.1.map cU))]),(1000001,.box [dI p.2.2.2.2])]) (fun s h => ?_) (fun s h => ?_)
      · refine T_co [.keep [0,2,6,7,8,17,18,21,22,1000000,1000001]] ((fun (p : (List UInt8) × Int × Int × Int × (List UInt8) × Int) => [(0,dI a0),(2,.clo 60 [.bp 1000000 0,.bp 1000001 0]),(6,.box [dI 0,dI 0,oW6 []]),(7,.box [dI a0,dI a1,oW6 p.1]),(8,dI v1),(17,dI a1),(18,dI v1),(21,dI a0),(22,dI p.2.1),(1000000,.box [dI p.2.2.1,dI p.2.2.2.1,.d (.sl 1 (p.2.2.2.2.1.map cU))]),(1000001,.box [dI p.2.2.2.2.2])]) (v8,(0 : Int),v9,v10,v11,v12)) (by show _ = _; kernel_rfl) ?_
        refine T_block ?_
        refine T_loopF (ι := (List UInt8) × Int × Int × Int × (List UInt8) × Int) (fun (p : (List UInt8) × Int × Int × Int × (List UInt8) × Int) => [(0,dI a0),(2,.clo 60 [.bp 1000000 0,.bp 1000001 0]),(6,.box [dI 0,dI 0,oW6 []]),(7,.box [dI a0,dI a1,oW6 p.1]),(8,dI v1),(17,dI a1),(18,dI v1),(21,dI a0),(22,dI p.2.1),(1000000,.box [dI p.2.2.1,dI p.2.2.2.1,.d (.sl 1 (p.2.2.2.2.1.map cU))]),(1000001,.box [dI p.2.2.2.2.2])]) (fun n p => raster_build_uint8_v3_L2 F a0 v1 n p.1 p.2.1 p.2.2.1 p.2.2.2.1 p.2.2.2.2.1 p.2.2.2.2.2 = some s) (fun i hh => by simp [raster_build_uint8_v3_L2] at hh) (fun n p h => ?_) F (v8,(0 : Int),v9,v10,v11,v12) h
        obtain ⟨v2,v3,v4,v5,v6,v7⟩ := p
        have h : raster_build_uint8_v3_L2 F a0 v1 (n + 1) v2 v3 v4 v5 v6 v7 = some s := h
        rw [raster_build_uint8_v3_L2] at h
        refine T_reg [] [0,2,6,7,8,17,18,21,22,23,1000000,1000001] [(23,dB (decide (v3 < a0)))] [] 1 (by kernel_rfl) (trivial) ?_
        refine T_seqk ?_
        refine T_cond (decide (v3 < a0)) (by kernel_rfl) (fun hc => ?_) (fun hc => ?_)
        · have h := cond_tt hc h
          refine T_skip fun a w hm => then_norm (((?_ : T Try.prog e 37 _ _ _) a w hm))
          refine T_seqk ?_
          refine T_block ?_
          refine T_reg [] [0,2,6,7,8,9,17,18,21,22,1000000,1000001] [(9,dI v3)] [] 2 (by kernel_rfl) (trivial) ?_
          obtain ⟨y1,hy1,h⟩ := call_ok h
          obtain ⟨hp2,h⟩ := chk_ok h
          obtain ⟨hp3,h⟩ := chk_ok h
          refine T_drawX_end mixed 3 (.take 0 (.take 2 (.take 3 (.take 4 (.all (.alt 1 (.all (.alt 5 (.all (.alt 6 (.all (.alt 7 (.take 8 (.all (.alt 9 .done .stop))) .stop)) .stop)) .stop)) (.alt 5 (.all (.alt 1 (.all (.alt 6 (.all (.alt 7 (.take 8 (.all (.alt 9 .done .stop))) .stop)) .stop)) (.alt 6 (.all (.alt 1 (.all (.alt 7 (.take 8 (.all (.alt 9 .done .stop))) .stop)) .stop)) .stop))) .stop))))))) ([0,1,0,0,0,28,32,98,255,511],[0,1,0,0,0,28,32,66,0,384]) 285 [(5,{ res := .d (.v (.int .u8 y1.1)),vout := [.box [dI y1.2.1,dI y1.2.2.1,.d (.sl 1 (y1.2.2.2.1.map cU))],.box [dI y1.2.2.2.2]],xs := [1000000,1000001] }),(6,{ es := some (([(UInt8.ofNat y1.1.toNat)]).map cU) }),(7,{ es := some ((v2 ++ ([(UInt8.ofNat y1.1.toNat)])).map cU) })] [0,2,6,7,8,17,18,21,22,1000000,1000001] [] [(0,dI a0),(2,.clo 60 [.bp 1000000 0,.bp 1000001 0]),(6,.box [dI 0,dI 0,oW6 []]),(7,.box [dI a0,dI a1,.own 5 1 ((v2 ++ ([(UInt8.ofNat y1.1.toNat)])).map cU)]),(8,dI v1),(17,dI a1),(18,dI v1),(21,dI a0),(22,dI v3),(1000000,.box [dI y1.2.1,dI y1.2.2.1,.d (.sl 1 (y1.2.2.2.1.map cU))]),(1000001,.box [dI y1.2.2.2.2])] ((fun (o5 : Prop) => fun (o6 : Prop) => fun (o7 : Prop) => [(5,o5),(0,o6),(0,o7),(2,o5),(1,o6),(0,o7),(2,o6),(1,o7)]) (ACall Try.prog 60 [dI v3,dI v1,.bp 1000000 0,.bp 1000001 0] [.box [dI v4,dI v5,.d (.sl 1 (v6.map cU))],.box [dI v7]] (.d (.v (.int .u8 y1.1))) [.box [dI y1.2.1,dI y1.2.2.1,.d (.sl 1 (y1.2.2.2.1.map cU))],.box [dI y1.2.2.2.2]]) ([[Dat.v (.int .u8 y1.1)]] = (([(UInt8.ofNat y1.1.toNat)]).map cU)) ((v2.map cU).length + (([(UInt8.ofNat y1.1.toNat)]).map cU).length ≤ 4294967296 ∧ (v2.map cU) ++ (([(UInt8.ofNat y1.1.toNat)]).map cU) = ((v2 ++ ([(UInt8.ofNat y1.1.toNat)])).map cU))) 2 (by kernel_rfl) (by kernel_rfl) (by kernel_rfl) (have p5 := raster_Grid_uint8_Turn_c3_ok hy1; have p6 := (lit_u hp2 (rfl : ([] : List (List Dat)) = ([] : List UInt8).map cU)); have p7 := app_ok cU hp3; ⟨p5,p6,p7,p5,p6,p7,p6,p7⟩) fun a w hm => inBlock_norm (then_norm (((?_ : T Try.prog e 37 _ _ _) a w hm)))
          refine T_reg_end [] [0,2,6,7,8,17,18,21,22,1000000,1000001] [(22,dI (IntKind.i64.wrap (v3 + (1 : Int))))] [] 2 (by kernel_rfl) (trivial) fun a w hm => then_norm (⟨((v2 ++ ([(UInt8.ofNat y1.1.toNat)])),IntKind.i64.wrap (v3 + (1 : Int)),y1.2.1,y1.2.2.1,y1.2.2.2.1,y1.2.2.2.2),h,hm.co (cs := [.keep [0,2,6,7,8,17,18,21,22,1000000,1000001]]) (by show _ = _; kernel_rfl)⟩)
        · have h := cond_ff hc h
          obtain hs := Option.some.inj h; subst hs
          refine T_exit fun a w hm => then_exit (then_exit (inBlock_exit (then_norm (hm.co (cs := [.keep [0,2,6,7,17,18,1000000,1000001]]) (by show _ = _; kernel_rfl)))))
      · obtain ⟨v13,v14,v15,v16,v17⟩ := s
        try dsimp only at h
        refine fun a w hm => inBlock_norm (then_norm (((?_ : T Try.prog e 37 _ _ _) a w hm)))
        refine T_reg_end [] [0,2,6,7,17,18,1000000,1000001] [(18,dI (IntKind.i64.wrap (v1 + (1 : Int))))] [] 2 (by kernel_rfl) (trivial) fun a w hm => then_norm (⟨(v13,IntKind.i64.wrap (v1 + (1 : Int)),v14,v15,v16,v17),h,hm.co (cs := [.keep [0,2,6,7,17,18,1000000,1000001]]) (by show _ = _; kernel_rfl)⟩)
    · have h := cond_ff hc h
      obtain hs := Option.some.inj h; subst hs
      refine T_exit fun a w hm => then_exit (then_exit (inBlock_exit (then_norm (hm.co (cs := [.keep [6,7,1000000,1000001]]) (by show _ = _; kernel_rfl)))))
  · obtain ⟨v18,v19,v20,v21,v22⟩ := s
    try dsimp only at h
    refine fun a w hm => then_norm (((?_ : T Try.prog e 37 _ _ _) a w hm))
    refine T_reg [(0,{ frz := [(7,3)] })] [6,1000000,1000001] [(6,.box [dI a0,dI a1,.d (.sl 1 (v18.map cU))])] [] 2 (by kernel_rfl) (trivial) ?_
    obtain hs := Option.some.inj h; subst hs
    refine T_ret fun a w hm => T_returnC (fr' := [(6,.box [dI a0,dI a1,.d (.sl 1 (v18.map cU))]),(1000000,.box [dI v19,dI v20,.d (.sl 1 (v21.map cU))]),(1000001,.box [dI v22])]) (ts := [37]) (N' := 38) (fr2 := [(37,.agg (cS_Plate (S_Plate.mk a0 a1 v18)))] ++ [(6,.box [dI a0,dI a1,.d (.sl 1 (v18.map cU))]),(1000000,.box [dI v19,dI v20,.d (.sl 1 (v21.map cU))]),(1000001,.box [dI v22])]) [.keep [6,1000000,1000001]] (by kernel_rfl) (by kernel_rfl) (by kernel_rfl) (by kernel_rfl) (by show _ = _; kernel_rfl) (by exact ⟨⟨by kernel_rfl,by kernel_rfl⟩,⟨⟨by kernel_rfl,by kernel_rfl⟩,trivial⟩⟩) a w hm
theorem raster_Grid_uint8_Turn_ok {F : Nat} {a0 : S_Plate} {a1 : Int} {r : S_Plate × Int} (h : raster_Grid_uint8_Turn F a0 a1 = some r) : ACall Try.prog 38 [.agg (cS_Plate a0),.d (.v (.int .i64 a1))] [] (.tup [.agg (cS_Plate r.1),.d (.v (.int .i64 r.2))]) [] := by
  rw [raster_Grid_uint8_Turn] at h
  refine ACall.intro (N := 45) Try.func38 rfl rfl rfl rfl rfl fun e => ?_
  refine T_reg [] [1,2,4] [(2,bx_Plate a0),(4,.box [dI 0,dI 0,oW6 []])] [] 3 (by kernel_rfl) (trivial) ?_
  refine T_seqk ?_
  obtain ⟨y1,hy1,h⟩ := call_ok h
  refine T_reg [(1,{ res := dI y1 })] [1,2,4,6] [(6,dI y1)] [(1,ACall Try.prog 41 [.agg (cS_Plate a0)] [] (dI y1) [])] 1 (by kernel_rfl) (raster_Grid_uint8_Check_ok hy1) ?_
  refine T_reg [] [1,2,4,6,12] [(12,dB (y1 != (0 : Int)))] [] 2 (by kernel_rfl) (trivial) ?_
  refine T_cond (y1 != (0 : Int)) (by kernel_rfl) (fun hc => ?_) (fun hc => ?_)
  · have h := cond_tt hc h
    refine T_region [(0,{ take := [0] })] [4,5] [.nilc 4 2 5 1,.keep [4,5]] [(4,.box [dI 0,dI 0,oW6 []]),(5,dI y1)] [] 4 (by kernel_rfl) (trivial) ?_
    obtain hs := Option.some.inj h; subst hs
    refine T_ret fun a w hm => then_ret (T_returnC (fr' := [(4,.box [dI 0,dI 0,.fz 1 ([].map cU)]),(5,dI y1)]) (ts := [45,5]) (N' := 46) (fr2 := [(45,.agg (cS_Plate z_Plate))] ++ [(4,.box [dI 0,dI 0,.fz 1 ([].map cU)]),(5,dI y1)]) [.frz (4,3),.keep [4,5]] (by kernel_rfl) (by kernel_rfl) (by kernel_rfl) (by kernel_rfl) (by show _ = _; kernel_rfl) (by exact trivial) a w hm)
  · have h := cond_ff hc h
    refine T_skip fun a w hm => then_norm (((?_ : T Try.prog e 45 _ _ _) a w hm))
    refine T_drawX mixed 30 (.take 0 (.take 2 (.all (.alt 1 (.all (.alt 3 (.all (.alt 4 (.all (.alt 5 (.all (.alt 6 (.all (.alt 7 .done .stop)) .stop)) .stop)) (.alt 5 (.all (.alt 4 (.all (.alt 6 (.all (.alt 7 .done .stop)) .stop)) .stop)) .stop))) (.alt 4 (.all (.alt 3 (.all (.alt 5 (.all (.alt 6 (.all (.alt 7 .done .stop)) .stop)) .stop)) (.alt 5 (.all (.alt 3 (.all (.alt 6 (.all (.alt 7 .done .stop)) .stop)) (.alt 6 (.all (.alt 3 (.all (.alt 7 .done .stop)) .stop)) .stop))) .stop))) (.alt 5 (.all (.alt 3 (.all (.alt 4 (.all (.alt 6 (.all (.alt 7 .done .stop)) .stop)) .stop)) (.alt 4 (.all (.alt 3 (.all (.alt 6 (.all (.alt 7 .done .stop)) .stop)) (.alt 6 (.all (.alt 3 (.all (.alt 7 .done .stop)) .stop)) .stop))) .stop))) .stop)))) (.alt 3 (.all (.alt 1 (.all (.alt 4 (.all (.alt 5 (.all (.alt 6 (.all (.alt 7 .done .stop)) .stop)) .stop)) (.alt 5 (.all (.alt 4 (.all (.alt 6 (.all (.alt 7 .done .stop)) .stop)) .stop)) .stop))) (.alt 4 (.all (.alt 1 (.all (.alt 5 (.all (.alt 6 (.all (.alt 7 .done .stop)) .stop)) .stop)) (.alt 5 (.all (.alt 1 (.all (.alt 6 (.all (.alt 7 .done .stop)) .stop)) .stop)) .stop))) (.alt 5 (.all (.alt 1 (.all (.alt 4 (.all (.alt 6 (.all (.alt 7 .done .stop)) .stop)) .stop)) (.alt 4 (.all (.alt 1 (.all (.alt 6 (.all (.alt 7 .done .stop)) .stop)) .stop)) .stop))) .stop)))) (.alt 4 (.all (.alt 1 (.all (.alt 3 (.all (.alt 5 (.all (.alt 6 (.all (.alt 7 .done .stop)) .stop)) .stop)) (.alt 5 (.all (.alt 3 (.all (.alt 6 (.all (.alt 7 .done .stop)) .stop)) (.alt 6 (.all (.alt 3 (.all (.alt 7 .done .stop)) .stop)) .stop))) .stop))) (.alt 3 (.all (.alt 1 (.all (.alt 5 (.all (.alt 6 (.all (.alt 7 .done .stop)) .stop)) .stop)) (.alt 5 (.all (.alt 1 (.all (.alt 6 (.all (.alt 7 .done .stop)) .stop)) .stop)) .stop))) (.alt 5 (.all (.alt 1 (.all (.alt 3 (.all (.alt 6 (.all (.alt 7 .done .stop)) .stop)) (.alt 6 (.all (.alt 3 (.all (.alt 7 .done .stop)) .stop)) .stop))) (.alt 3 (.all (.alt 1 (.all (.alt 6 (.all (.alt 7 .done .stop)) .stop)) .stop)) .stop))) .stop)))) (.alt 5 (.all (.alt 1 (.all (.alt 3 (.all (.alt 4 (.all (.alt 6 (.all (.alt 7 .done .stop)) .stop)) .stop)) (.alt 4 (.all (.alt 3 (.all (.alt 6 (.all (.alt 7 .done .stop)) .stop)) (.alt 6 (.all (.alt 3 (.all (.alt 7 .done .stop)) .stop)) .stop))) .stop))) (.alt 3 (.all (.alt 1 (.all (.alt 4 (.all (.alt 6 (.all (.alt 7 .done .stop)) .stop)) .stop)) (.alt 4 (.all (.alt 1 (.all (.alt 6 (.all (.alt 7 .done .stop)) .stop)) .stop)) .stop))) (.alt 4 (.all (.alt 1 (.all (.alt 3 (.all (.alt 6 (.all (.alt 7 .done .stop)) .stop)) (.alt 6 (.all (.alt 3 (.all (.alt 7 .done .stop)) .stop)) .stop))) (.alt 3 (.all (.alt 1 (.all (.alt 6 (.all (.alt 7 .done .stop)) .stop)) .stop)) .stop))) .stop)))) .stop))))))) ([0,1,0,4,0,0,51,127],[0,1,0,4,0,0,18,40]) 5 [] [1,2,4,7,8] [] [(1,dI a1),(2,bx_Plate a0),(4,.box [dI 0,dI 0,oW6 []]),(7,.box [dI a0.f0]),(8,.box [dI a0.f1])] [] 132 (by kernel_rfl) (by kernel_rfl) (by kernel_rfl) (trivial) ?_
    refine T_seqk ?_
    obtain ⟨z1,hz1,h⟩ := lett_ok h
    refine T_reg [(1,{ rw := some (dI z1) })] [2,4,7,8,20] [(20,dI z1)] [(1,(True) ∧ dI (IntKind.i64.wrap ((BitVec.ofInt IntKind.i64.bits a1 &&& BitVec.ofInt IntKind.i64.bits (3 : Int)).toNat : Int)) = dI z1)] 0 (by kernel_rfl) (⟨trivial,(by subst hz1; rfl)⟩) ?_
    refine T_block ?_
    refine T_reg [] [2,4,7,8,20,21] [(21,dB (z1 == (1 : Int)))] [] 2 (by kernel_rfl) (trivial) ?_
    refine T_cond (z1 == (1 : Int)) (by kernel_rfl) (fun hc => ?_) (fun hc => ?_)
    · have h := cond_tt hc h
      obtain ⟨y2,hy2,h⟩ := call_ok h
      refine T_reg [(3,{ res := .agg (cS_Plate y2.1),vout := [.box [dI y2.2.1,dI y2.2.2.1,.d (.sl 1 (y2.2.2.2.1.map cU))],.box [dI y2.2.2.2.2.1],.box [dI y2.2.2.2.2.2]],xs := [2,8,7] })] [4,5] [(4,bx_Plate y2.1),(5,dI (0 : Int))] [(3,ACall Try.prog 53 [dI a0.f1,dI a0.f0,.clo 58 [.bp 1000000 0,.bp 1000001 0,.bp 1000002 0]] [bx_Plate a0,.box [dI a0.f1],.box [dI a0.f0]] (.agg (cS_Plate y2.1)) [.box [dI y2.2.1,dI y2.2.2.1,.d (.sl 1 (y2.2.2.2.1.map cU))],.box [dI y2.2.2.2.2.1],.box [dI y2.2.2.2.2.2]])] 2 (by kernel_rfl) (raster_build_uint8_v1_ok hy2) ?_
      obtain hs := Option.some.inj h; subst hs
      refine T_ret fun a w hm => inBlock_ret (then_ret (T_returnC (fr' := [(4,bx_Plate y2.1),(5,dI (0 : Int))]) (ts := [45,5]) (N' := 46) (fr2 := [(45,.agg (cS_Plate y2.1))] ++ [(4,bx_Plate y2.1),(5,dI (0 : Int))]) [.keep [4,5]] (by kernel_rfl) (by kernel_rfl) (by kernel_rfl) (by kernel_rfl) (by show _ = _; kernel_rfl) (by exact trivial) a w hm))
    · have h := cond_ff hc h
      refine T_reg [] [2,4,7,8,20,27] [(27,dB (z1 == (2 : Int)))] [] 2 (by kernel_rfl) (trivial) ?_
      refine T_cond (z1 == (2 : Int)) (by kernel_rfl) (fun hc => ?_) (fun hc => ?_)
      · have h := cond_tt hc h
        obtain ⟨y3,hy3,h⟩ := call_ok h
        refine T_reg [(3,{ res := .agg (cS_Plate y3.1),vout := [.box [dI y3.2.1,dI y3.2.2.1,.d (.sl 1 (y3.2.2.2.1.map cU))],.box [dI y3.2.2.2.2.1],.box [dI y3.2.2.2.2.2]],xs := [2,8,7] })] [4,5] [(4,bx_Plate y3.1),(5,dI (0 : Int))] [(3,ACall Try.prog 53 [dI a0.f0,dI a0.f1,.clo 59 [.bp 1000000 0,.bp 1000001 0,.bp 1000002 0]] [bx_Plate a0,.box [dI a0.f1],.box [dI a0.f0]] (.agg (cS_Plate y3.1)) [.box [dI y3.2.1,dI y3.2.2.1,.d (.sl 1 (y3.2.2.2.1.map cU))],.box [dI y3.2.2.2.2.1],.box [dI y3.2.2.2.2.2]])] 2 (by kernel_rfl) (raster_build_uint8_v2_ok hy3) ?_
        obtain hs := Option.some.inj h; subst hs
        refine T_ret fun a w hm => inBlock_ret (then_ret (T_returnC (fr' := [(4,bx_Plate y3.1),(5,dI (0 : Int))]) (ts := [45,5]) (N' := 46) (fr2 := [(45,.agg (cS_Plate y3.1))] ++ [(4,bx_Plate y3.1),(5,dI (0 : Int))]) [.keep [4,5]] (by kernel_rfl) (by kernel_rfl) (by kernel_rfl) (by kernel_rfl) (by show _ = _; kernel_rfl) (by exact trivial) a w hm))
      · have h := cond_ff hc h
        refine T_reg [] [2,4,7,8,33] [(33,dB (z1 == (3 : Int)))] [] 2 (by kernel_rfl) (trivial) ?_
        refine T_cond (z1 == (3 : Int)) (by kernel_rfl) (fun hc => ?_) (fun hc => ?_)
        · have h := cond_tt hc h
          obtain ⟨y4,hy4,h⟩ := call_ok h
          refine T_reg [(3,{ res := .agg (cS_Plate y4.1),vout := [.box [dI y4.2.1,dI y4.2.2.1,.d (.sl 1 (y4.2.2.2.1.map cU))],.box [dI y4.2.2.2.2]],xs := [2,7] })] [4,5] [(4,bx_Plate y4.1),(5,dI (0 : Int))] [(3,ACall Try.prog 53 [dI a0.f1,dI a0.f0,.clo 60 [.bp 1000000 0,.bp 1000001 0]] [bx_Plate a0,.box [dI a0.f0]] (.agg (cS_Plate y4.1)) [.box [dI y4.2.1,dI y4.2.2.1,.d (.sl 1 (y4.2.2.2.1.map cU))],.box [dI y4.2.2.2.2]])] 2 (by kernel_rfl) (raster_build_uint8_v3_ok hy4) ?_
          obtain hs := Option.some.inj h; subst hs
          refine T_ret fun a w hm => inBlock_ret (then_ret (T_returnC (fr' := [(4,bx_Plate y4.1),(5,dI (0 : Int))]) (ts := [45,5]) (N' := 46) (fr2 := [(45,.agg (cS_Plate y4.1))] ++ [(4,bx_Plate y4.1),(5,dI (0 : Int))]) [.keep [4,5]] (by kernel_rfl) (by kernel_rfl) (by kernel_rfl) (by kernel_rfl) (by show _ = _; kernel_rfl) (by exact trivial) a w hm))
        · have h := cond_ff hc h
          refine T_skip fun a w hm => inBlock_norm (then_norm (((?_ : T Try.prog e 45 _ _ _) a w hm)))
          obtain ⟨y5,hy5,h⟩ := call_ok h
          refine T_drawX mixed 12 (.take 2 (.all (.alt 0 (.all (.alt 1 (.all (.alt 3 (.all (.alt 4 (.all (.alt 5 (.all (.alt 6 (.take 7 .done) .stop)) .stop)) .stop)) .stop)) (.alt 3 (.all (.alt 1 (.all (.alt 4 (.all (.alt 5 (.all (.alt 6 (.take 7 .done) .stop)) .stop)) .stop)) (.alt 4 (.all (.alt 1 (.all (.alt 5 (.all (.alt 6 (.take 7 .done) .stop)) .stop)) .stop)) .stop))) .stop))) (.alt 1 (.all (.alt 0 (.all (.alt 3 (.all (.alt 4 (.all (.alt 5 (.all (.alt 6 (.take 7 .done) .stop)) .stop)) .stop)) .stop)) (.alt 3 (.all (.alt 0 (.all (.alt 4 (.all (.alt 5 (.all (.alt 6 (.take 7 .done) .stop)) .stop)) .stop)) (.alt 4 (.all (.alt 0 (.all (.alt 5 (.all (.alt 6 (.take 7 .done) .stop)) .stop)) .stop)) .stop))) .stop))) (.alt 3 (.all (.alt 0 (.all (.alt 1 (.all (.alt 4 (.all (.alt 5 (.all (.alt 6 (.take 7 .done) .stop)) .stop)) .stop)) (.alt 4 (.all (.alt 1 (.all (.alt 5 (.all (.alt 6 (.take 7 .done) .stop)) .stop)) .stop)) .stop))) (.alt 1 (.all (.alt 0 (.all (.alt 4 (.all (.alt 5 (.all (.alt 6 (.take 7 .done) .stop)) .stop)) .stop)) (.alt 4 (.all (.alt 0 (.all (.alt 5 (.all (.alt 6 (.take 7 .done) .stop)) .stop)) .stop)) .stop))) (.alt 4 (.all (.alt 0 (.all (.alt 1 (.all (.alt 5 (.all (.alt 6 (.take 7 .done) .stop)) .stop)) .stop)) (.alt 1 (.all (.alt 0 (.all (.alt 5 (.all (.alt 6 (.take 7 .done) .stop)) .stop)) .stop)) .stop))) .stop)))) .stop))))) ([0,0,0,4,8,19,63,127],[0,0,0,4,8,19,32,0]) 132 [(4,{ res := oW6 y5 }),(5,{ frz := [(43,0)] })] [4,5] [] [(4,.box [dI a0.f0,dI a0.f1,.d (.sl 1 (y5.map cU))]),(5,dI (0 : Int))] ((fun (o4 : Prop) => [(4,o4),(5,o4),(3,o4),(7,o4),(5,o4),(3,o4),(7,o4),(3,o4),(6,o4),(3,o4),(4,o4)]) (ACall Try.prog 57 [.d (.sl 1 (a0.f2.map cU))] [] (oW6 y5) [])) 10 (by kernel_rfl) (by kernel_rfl) (by kernel_rfl) (have p4 := slices_Clone_uint8_ok hy5; ⟨p4,p4,p4,p4,p4,p4,p4,p4,p4,p4,p4⟩) ?_
          obtain hs := Option.some.inj h; subst hs
          refine T_ret fun a w hm => T_returnC (fr' := [(4,.box [dI a0.f0,dI a0.f1,.d (.sl 1 (y5.map cU))]),(5,dI (0 : Int))]) (ts := [45,5]) (N' := 46) (fr2 := [(45,.agg (cS_Plate (S_Plate.mk a0.f0 a0.f1 y5)))] ++ [(4,.box [dI a0.f0,dI a0.f1,.d (.sl 1 (y5.map cU))]),(5,dI (0 : Int))]) [.keep [4,5]] (by kernel_rfl) (by kernel_rfl) (by kernel_rfl) (by kernel_rfl) (by show _ = _; kernel_rfl) (by exact trivial) a w hm
theorem raster_Plate_ok {F : Nat} {a0 : S_Plate} {r : S_Plate} (h : raster_Plate F a0 = some r) : ACall Try.prog 39 [.agg (cS_Plate a0)] [] (.agg (cS_Plate r)) [] := by
  rw [raster_Plate] at h
  refine ACall.intro (N := 11) Try.func39 rfl rfl rfl rfl rfl fun e => ?_
  refine T_reg [] [1,2] [(1,bx_Plate a0),(2,.box [dI 0,dI 0,oW6 []])] [] 2 (by kernel_rfl) (trivial) ?_
  obtain ⟨y1,hy1,h⟩ := call_ok h
  refine T_drawX mixed 12 (.take 0 (.take 2 (.take 4 (.all (.alt 1 (.all (.alt 3 (.all (.alt 5 (.all (.alt 6 (.all (.alt 7 (.all (.alt 8 .done .stop)) .stop)) .stop)) .stop)) (.alt 5 (.all (.alt 3 (.all (.alt 6 (.all (.alt 7 (.all (.alt 8 .done .stop)) .stop)) .stop)) (.alt 6 (.all (.alt 3 (.all (.alt 7 (.all (.alt 8 .done .stop)) .stop)) .stop)) .stop))) .stop))) (.alt 3 (.all (.alt 1 (.all (.alt 5 (.all (.alt 6 (.all (.alt 7 (.all (.alt 8 .done .stop)) .stop)) .stop)) .stop)) (.alt 5 (.all (.alt 1 (.all (.alt 6 (.all (.alt 7 (.all (.alt 8 .done .stop)) .stop)) .stop)) (.alt 6 (.all (.alt 1 (.all (.alt 7 (.all (.alt 8 .done .stop)) .stop)) .stop)) .stop))) .stop))) (.alt 5 (.all (.alt 1 (.all (.alt 3 (.all (.alt 6 (.all (.alt 7 (.all (.alt 8 .done .stop)) .stop)) .stop)) (.alt 6 (.all (.alt 3 (.all (.alt 7 (.all (.alt 8 .done .stop)) .stop)) .stop)) .stop))) (.alt 3 (.all (.alt 1 (.all (.alt 6 (.all (.alt 7 (.all (.alt 8 .done .stop)) .stop)) .stop)) (.alt 6 (.all (.alt 1 (.all (.alt 7 (.all (.alt 8 .done .stop)) .stop)) .stop)) .stop))) (.alt 6 (.all (.alt 1 (.all (.alt 3 (.all (.alt 7 (.all (.alt 8 .done .stop)) .stop)) .stop)) (.alt 3 (.all (.alt 1 (.all (.alt 7 (.all (.alt 8 .done .stop)) .stop)) .stop)) .stop))) .stop)))) .stop))))))) ([0,1,0,4,0,16,32,74,255],[0,1,0,4,0,16,32,74,128]) 21 [(6,{ res := oW6 y1 }),(7,{ frz := [(9,0)] })] [2] [] [(2,.box [dI a0.f0,dI a0.f1,.d (.sl 1 (y1.map cU))])] ((fun (o6 : Prop) => [(6,o6),(4,o6),(2,o6),(6,o6),(4,o6),(2,o6),(6,o6),(2,o6),(5,o6),(2,o6),(3,o6)]) (ACall Try.prog 57 [.d (.sl 1 (a0.f2.map cU))] [] (oW6 y1) [])) 8 (by kernel_rfl) (by kernel_rfl) (by kernel_rfl) (have p6 := slices_Clone_uint8_ok hy1; ⟨p6,p6,p6,p6,p6,p6,p6,p6,p6,p6,p6⟩) ?_
  obtain hs := Option.some.inj h; subst hs
  refine T_ret fun a w hm => T_returnC (fr' := [(2,.box [dI a0.f0,dI a0.f1,.d (.sl 1 (y1.map cU))])]) (ts := [11]) (N' := 12) (fr2 := [(11,.agg (cS_Plate (S_Plate.mk a0.f0 a0.f1 y1)))] ++ [(2,.box [dI a0.f0,dI a0.f1,.d (.sl 1 (y1.map cU))])]) [.keep [2]] (by kernel_rfl) (by kernel_rfl) (by kernel_rfl) (by kernel_rfl) (by show _ = _; kernel_rfl) (by exact trivial) a w hm
theorem bindery_part_ok {F : Nat} {a0 : S_Plate} {a1 : Int} {a2 : Int} {a3 : Int} {a4 : Int} {a5 : Int} {r : S_Plate} (h : bindery_part F a0 a1 a2 a3 a4 a5 = some r) : ACall Try.prog 21 [.agg (cS_Plate a0),.d (.v (.int .i64 a1)),.d (.v (.int .i64 a2)),.d (.v (.int .i64 a3)),.d (.v (.int .i64 a4)),.d (.v (.int .i64 a5))] [] (.agg (cS_Plate r)) [] := by
  rw [bindery_part] at h
  refine ACall.intro (N := 33) Try.func21 rfl rfl rfl rfl rfl fun e => ?_
  refine T_reg [] [1,2,3,4,5,6,12] [(6,bx_Plate a0),(12,.box [dI 0,dI 0,oW6 []])] [] 2 (by kernel_rfl) (trivial) ?_
  obtain ⟨y1,hy1,h⟩ := call_ok h
  obtain ⟨y2,hy2,h⟩ := call_ok h
  refine T_reg [(1,{ res := .agg (cS_Plate y1) }),(6,{ res := .tup [.agg (cS_Plate y2.1),dI y2.2] })] [5,12,13] [(13,bx_Plate y2.1)] [(1,ACall Try.prog 37 [.agg (cS_Plate a0)] [] (.agg (cS_Plate y1)) []),(4,ACall Try.prog 42 [.agg (cS_Plate y1),dI a1,dI a2,dI a3,dI a4] [] (.tup [.agg (cS_Plate y2.1),dI y2.2]) [])] 6 (by kernel_rfl) (⟨raster_Of_ok hy1,raster_Grid_uint8_Crop_ok hy2⟩) ?_
  obtain ⟨y3,hy3,h⟩ := call_ok h
  refine T_reg [(2,{ res := .tup [.agg (cS_Plate y3.1),dI y3.2] })] [12,13] [(13,bx_Plate y3.1)] [(2,ACall Try.prog 38 [.agg (cS_Plate y2.1),dI a5] [] (.tup [.agg (cS_Plate y3.1),dI y3.2]) [])] 4 (by kernel_rfl) (raster_Grid_uint8_Turn_ok hy3) ?_
  obtain ⟨y4,hy4,h⟩ := call_ok h
  refine T_reg [(1,{ res := .agg (cS_Plate y4) })] [12] [(12,bx_Plate y4)] [(1,ACall Try.prog 39 [.agg (cS_Plate y3.1)] [] (.agg (cS_Plate y4)) [])] 1 (by kernel_rfl) (raster_Plate_ok hy4) ?_
  obtain hs := Option.some.inj h; subst hs
  refine T_ret fun a w hm => T_returnC (fr' := [(12,bx_Plate y4)]) (ts := [33]) (N' := 34) (fr2 := [(33,.agg (cS_Plate y4))] ++ [(12,bx_Plate y4)]) [.keep [12]] (by kernel_rfl) (by kernel_rfl) (by kernel_rfl) (by kernel_rfl) (by show _ = _; kernel_rfl) (by exact trivial) a w hm
theorem bindery_Fold_ok {F : Nat} {a0 : S_BinderySheet} {a1 : S_ImposeLayout} {r : (List S_BinderyLeaf) × Int} (h : bindery_Fold F a0 a1 = some r) : ACall Try.prog 9 [.agg (cS_BinderySheet a0),.agg (cS_ImposeLayout a1)] [] (.tup [.own 51 6 (r.1.map cS_BinderyLeaf),.d (.v (.int .i64 r.2))]) [] := by
  rw [bindery_Fold] at h
  refine ACall.intro (N := 120) Try.func9 rfl rfl rfl rfl rfl fun e => ?_
  refine T_reg [] [2,3] [(2,bx_BinderySheet a0),(3,bx_ImposeLayout a1)] [] 4 (by kernel_rfl) (trivial) ?_
  refine T_seqk ?_
  obtain ⟨y4,hy1,h⟩ := call_ok h
  refine T_reg [(1,{ res := dI y4 })] [2,3,6] [(6,dI y4)] [(1,ACall Try.prog 22 [.agg (cS_ImposeLayout a1)] [] (dI y4) [])] 1 (by kernel_rfl) (impose_Check_ok hy1) ?_
  refine T_reg [] [2,3,6,22] [(22,dB (y4 != (0 : Int)))] [] 2 (by kernel_rfl) (trivial) ?_
  refine T_cond (y4 != (0 : Int)) (by kernel_rfl) (fun hc => ?_) (fun hc => ?_)
  · have h := cond_tt hc h
    refine T_reg [] [4,5] [(4,oW7 []),(5,dI y4)] [] 3 (by kernel_rfl) (trivial) ?_
    obtain hs := Option.some.inj h; subst hs
    refine T_ret fun a w hm => then_ret (T_return (fr' := [(4,oW7 []),(5,dI y4)]) [4,5] (by kernel_rfl) [.keep [4,5]] (by kernel_rfl) (by kernel_rfl) (by kernel_rfl) (by show _ = _; kernel_rfl) (by exact trivial) a w hm)
  · have h := cond_ff hc h
    refine T_skip fun a w hm => then_norm (((?_ : T Try.prog e 120 _ _ _) a w hm))
    refine T_seqk ?_
    obtain ⟨y5,hy2,h⟩ := call_ok h
    refine T_reg [(4,{ res := dI y5 })] [2,3,7] [(7,dI y5)] [(4,ACall Try.prog 20 [.agg (cS_Plate a0.f0),.agg (cS_Plate a0.f1)] [] (dI y5) [])] 1 (by kernel_rfl) (bindery_sides_ok hy2) ?_
    refine T_reg [] [2,3,7,30] [(30,dB (y5 != (0 : Int)))] [] 2 (by kernel_rfl) (trivial) ?_
    refine T_cond (y5 != (0 : Int)) (by kernel_rfl) (fun hc => ?_) (fun hc => ?_)
    · have h := cond_tt hc h
      refine T_reg [] [4,5] [(4,oW7 []),(5,dI y5)] [] 3 (by kernel_rfl) (trivial) ?_
      obtain hs := Option.some.inj h; subst hs
      refine T_ret fun a w hm => then_ret (T_return (fr' := [(4,oW7 []),(5,dI y5)]) [4,5] (by kernel_rfl) [.keep [4,5]] (by kernel_rfl) (by kernel_rfl) (by kernel_rfl) (by show _ = _; kernel_rfl) (by exact trivial) a w hm)
    · have h := cond_ff hc h
      refine T_skip fun a w hm => then_norm (((?_ : T Try.prog e 120 _ _ _) a w hm))
      obtain ⟨y1,hy3,h⟩ := call_ok h
      refine T_reg [(1,{ res := .agg (cS_bindery_frame y1) })] [2,3,8] [(8,bx_bindery_frame y1)] [(1,ACall Try.prog 23 [.agg (cS_ImposeLayout a1)] [] (.agg (cS_bindery_frame y1)) [])] 2 (by kernel_rfl) (bindery_frameOf_ok hy3) ?_
      refine T_seqk ?_
      refine T_reg [] [2,3,8,47] [(47,dB (bif (a0.f0.f0 != y1.f2) then true else (a0.f0.f1 != y1.f3)))] [(7,((((a0.f0.f0 != y1.f2) == false) && true) = true → True)),(0,((((a0.f0.f0 != y1.f2) == false) && true) = true → True)),(0,((((a0.f0.f0 != y1.f2) == false) && true) = true → True)),(0,((((a0.f0.f0 != y1.f2) == false) && true) = true → True)),(0,((((a0.f0.f0 != y1.f2) == false) && true) = true → True)),(0,((((a0.f0.f0 != y1.f2) == false) && true) = true → True))] 1 (by kernel_rfl) (⟨(fun hg => trivial),(fun hg => trivial),(fun hg => trivial),(fun hg => trivial),(fun hg => trivial),(fun hg => trivial)⟩) ?_
      refine T_cond (bif (a0.f0.f0 != y1.f2) then true else (a0.f0.f1 != y1.f3)) (by kernel_rfl) (fun hc => ?_) (fun hc => ?_)
      · have h := cond_tt hc h
        refine T_reg [] [4,5] [(4,oW7 []),(5,dI (19 : Int))] [] 2 (by kernel_rfl) (trivial) ?_
        obtain hs := Option.some.inj h; subst hs
        refine T_ret fun a w hm => then_ret (T_return (fr' := [(4,oW7 []),(5,dI (19 : Int))]) [4,5] (by kernel_rfl) [.keep [4,5]] (by kernel_rfl) (by kernel_rfl) (by kernel_rfl) (by show _ = _; kernel_rfl) (by exact trivial) a w hm)
      · have h := cond_ff hc h
        refine T_skip fun a w hm => then_norm (((?_ : T Try.prog e 120 _ _ _) a w hm))
        obtain ⟨y2,hy4,h⟩ := call_ok h
        refine T_reg [(2,{ res := .tup [.d (.sl 4 (y2.1.map cS_FoldPage)),dI y2.2] })] [2,3,8,9] [(9,.d (.sl 4 (y2.1.map cS_FoldPage)))] [(2,ACall Try.prog 24 [.agg (cS_FoldScheme a1.f0)] [] (.tup [.d (.sl 4 (y2.1.map cS_FoldPage)),dI y2.2]) [])] 5 (by kernel_rfl) (fold_Pages_ok hy4) ?_
        refine T_reg [] [2,3,8,9,11] [(11,oW7 [])] [] 1 (by kernel_rfl) (trivial) ?_
        refine T_seqk ?_
        refine T_reg [] [2,3,8,9,11,12] [(12,dI (0 : Int))] [] 1 (by kernel_rfl) (trivial) ?_
        refine T_joinct h (fun (p : (List S_BinderyLeaf)) => [(11,oW7 p)]) (fun s h => ?_) (fun v11 h => ?_)
        · refine T_co [.keep [2,3,8,9,11,12]] ((fun (p : (List S_BinderyLeaf) × Int) => [(2,bx_BinderySheet a0),(3,bx_ImposeLayout a1),(8,bx_bindery_frame y1),(9,.d (.sl 4 (y2.1.map cS_FoldPage))),(11,oW7 p.1),(12,dI p.2)]) ([],(0 : Int))) (by show _ = _; kernel_rfl) ?_
          refine T_block ?_
          refine T_loopF (ι := (List S_BinderyLeaf) × Int) (fun (p : (List S_BinderyLeaf) × Int) => [(2,bx_BinderySheet a0),(3,bx_ImposeLayout a1),(8,bx_bindery_frame y1),(9,.d (.sl 4 (y2.1.map cS_FoldPage))),(11,oW7 p.1),(12,dI p.2)]) (fun n p => bindery_Fold_L0 F a0 a1 y1 y2 n p.1 p.2 = some s) (fun i hh => by simp [bindery_Fold_L0] at hh) (fun n p h => ?_) F ([],(0 : Int)) h
          obtain ⟨v9,v1⟩ := p
          have h : bindery_Fold_L0 F a0 a1 y1 y2 (n + 1) v9 v1 = some s := h
          rw [bindery_Fold_L0] at h
          refine T_seqk ?_
          refine T_reg [(2,{ rw := some (dI (y2.1.length : Int)) })] [2,3,8,9,11,12,57] [(57,dB (decide (v1 < (y2.1.length : Int))))] [(2,True ∧ dI ((y2.1.map cS_FoldPage).length : Int) = dI (y2.1.length : Int))] 1 (by kernel_rfl) (len_ok cS_FoldPage) ?_
          refine T_cond (decide (v1 < (y2.1.length : Int))) (by kernel_rfl) (fun hc => ?_) (fun hc => ?_)
          · have h := cond_tt hc h
            refine T_skip fun a w hm => then_norm (((?_ : T Try.prog e 120 _ _ _) a w hm))
            refine T_seqk ?_
            refine T_block ?_
            refine T_reg [(0,{ es := some ((List.replicate 2 z_Plate).map cS_Plate) })] [2,3,8,9,11,12,13] [(13,.arr 68 3 ((List.replicate 2 z_Plate).map cS_Plate))] [(0,ArrZero Try.prog 68 2 24 ∧ List.replicate 2 (cS_Plate z_Plate) = ((List.replicate 2 z_Plate).map cS_Plate))] 0 (by kernel_rfl) (⟨(by show _ = _; kernel_rfl),repl_ok cS_Plate rfl⟩) ?_
            refine T_seqk ?_
            obtain ⟨hp1,h⟩ := chk_ok h
            obtain ⟨z1,hz1,h⟩ := lett_ok h
            refine T_reg [(4,{ rw := some (.d (.sl 4 (((y2.1.drop v1.toNat).take ((IntKind.i64.wrap (v1 + (2 : Int))).toNat - v1.toNat)).map cS_FoldPage))) }),(5,{ rw := some (dI z1) })] [2,3,8,9,11,12,13,64,65,66] [(64,.d (.sl 4 (((y2.1.drop v1.toNat).take ((IntKind.i64.wrap (v1 + (2 : Int))).toNat - v1.toNat)).map cS_FoldPage))),(65,dI z1),(66,dI (0 : Int))] [(4,(0 ≤ v1 ∧ v1 ≤ (IntKind.i64.wrap (v1 + (2 : Int))) ∧ (IntKind.i64.wrap (v1 + (2 : Int))) ≤ ((y2.1.map cS_FoldPage).length : Int)) ∧ AV.d (.sl 4 (((y2.1.map cS_FoldPage).drop v1.toNat).take ((IntKind.i64.wrap (v1 + (2 : Int))).toNat - v1.toNat))) = .d (.sl 4 (((y2.1.drop v1.toNat).take ((IntKind.i64.wrap (v1 + (2 : Int))).toNat - v1.toNat)).map cS_FoldPage))),(0,True ∧ dI ((((y2.1.drop v1.toNat).take ((IntKind.i64.wrap (v1 + (2 : Int))).toNat - v1.toNat)).map cS_FoldPage).length : Int) = dI z1)] 1 (by kernel_rfl) (⟨cutH cS_FoldPage hp1,and_trans (len_ok cS_FoldPage) (by subst hz1; rfl)⟩) ?_
            refine T_joinct h (fun (p : (List S_Plate)) => [(2,bx_BinderySheet a0),(3,bx_ImposeLayout a1),(8,bx_bindery_frame y1),(9,.d (.sl 4 (y2.1.map cS_FoldPage))),(11,oW7 v9),(12,dI v1),(13,.arr 68 3 (p.map cS_Plate))]) (fun s h => ?_) (fun v10 h => ?_)
            · refine T_co [.keep [2,3,8,9,11,12,13,64,65,66]] ((fun (p : (List S_Plate) × Int) => [(2,bx_BinderySheet a0),(3,bx_ImposeLayout a1),(8,bx_bindery_frame y1),(9,.d (.sl 4 (y2.1.map cS_FoldPage))),(11,oW7 v9),(12,dI v1),(13,.arr 68 3 (p.1.map cS_Plate)),(64,.d (.sl 4 (((y2.1.drop v1.toNat).take ((IntKind.i64.wrap (v1 + (2 : Int))).toNat - v1.toNat)).map cS_FoldPage))),(65,dI z1),(66,dI p.2)]) ((List.replicate 2 z_Plate),(0 : Int))) (by show _ = _; kernel_rfl) ?_
              refine T_block ?_
              refine T_loopF (ι := (List S_Plate) × Int) (fun (p : (List S_Plate) × Int) => [(2,bx_BinderySheet a0),(3,bx_ImposeLayout a1),(8,bx_bindery_frame y1),(9,.d (.sl 4 (y2.1.map cS_FoldPage))),(11,oW7 v9),(12,dI v1),(13,.arr 68 3 (p.1.map cS_Plate)),(64,.d (.sl 4 (((y2.1.drop v1.toNat).take ((IntKind.i64.wrap (v1 + (2 : Int))).toNat - v1.toNat)).map cS_FoldPage))),(65,dI z1),(66,dI p.2)]) (fun n p => bindery_Fold_L2 F a0 a1 y1 y2 v1 z1 n p.1 p.2 = some s) (fun i hh => by simp [bindery_Fold_L2] at hh) (fun n p h => ?_) F ((List.replicate 2 z_Plate),(0 : Int)) h
              obtain ⟨v2,v3⟩ := p
              have h : bindery_Fold_L2 F a0 a1 y1 y2 v1 z1 (n + 1) v2 v3 = some s := h
              rw [bindery_Fold_L2] at h
              refine T_reg [] [2,3,8,9,11,12,13,64,65,66,67] [(67,dB (decide (v3 < z1)))] [] 1 (by kernel_rfl) (trivial) ?_
              refine T_seqk ?_
              refine T_cond (decide (v3 < z1)) (by kernel_rfl) (fun hc => ?_) (fun hc => ?_)
              · have h := cond_tt hc h
                refine T_skip fun a w hm => then_norm (((?_ : T Try.prog e 120 _ _ _) a w hm))
                refine T_seqk ?_
                refine T_block ?_
                obtain ⟨hp2,h⟩ := chk_ok h
                refine T_reg [(1,{ cs := cS_FoldPage (((y2.1.drop v1.toNat).take ((IntKind.i64.wrap (v1 + (2 : Int))).toNat - v1.toNat)).getD v3.toNat z_FoldPage) })] [2,3,8,9,11,12,13,14,15,64,65,66] [(14,dI v3),(15,.box [dB ((((y2.1.drop v1.toNat).take ((IntKind.i64.wrap (v1 + (2 : Int))).toNat - v1.toNat)).getD v3.toNat z_FoldPage).f0),dI ((((y2.1.drop v1.toNat).take ((IntKind.i64.wrap (v1 + (2 : Int))).toNat - v1.toNat)).getD v3.toNat z_FoldPage).f1),dI ((((y2.1.drop v1.toNat).take ((IntKind.i64.wrap (v1 + (2 : Int))).toNat - v1.toNat)).getD v3.toNat z_FoldPage).f2),dI ((((y2.1.drop v1.toNat).take ((IntKind.i64.wrap (v1 + (2 : Int))).toNat - v1.toNat)).getD v3.toNat z_FoldPage).f3)])] [(1,0 ≤ v3 ∧ (((y2.1.drop v1.toNat).take ((IntKind.i64.wrap (v1 + (2 : Int))).toNat - v1.toNat)).map cS_FoldPage)[v3.toNat]? = some (cS_FoldPage (((y2.1.drop v1.toNat).take ((IntKind.i64.wrap (v1 + (2 : Int))).toNat - v1.toNat)).getD v3.toNat z_FoldPage)))] 4 (by kernel_rfl) (idx_ok (d := z_FoldPage) cS_FoldPage hp2) ?_
                refine T_reg [] [2,3,8,9,11,12,13,14,15,16,64,65,66] [(16,bx_Plate a0.f0)] [] 4 (by kernel_rfl) (trivial) ?_
                refine T_joinc h (fun (p : Int × Int × (List UInt8)) => [(2,bx_BinderySheet a0),(3,bx_ImposeLayout a1),(8,bx_bindery_frame y1),(9,.d (.sl 4 (y2.1.map cS_FoldPage))),(11,oW7 v9),(12,dI v1),(13,.arr 68 3 (v2.map cS_Plate)),(14,dI v3),(15,.box [dB ((((y2.1.drop v1.toNat).take ((IntKind.i64.wrap (v1 + (2 : Int))).toNat - v1.toNat)).getD v3.toNat z_FoldPage).f0),dI ((((y2.1.drop v1.toNat).take ((IntKind.i64.wrap (v1 + (2 : Int))).toNat - v1.toNat)).getD v3.toNat z_FoldPage).f1),dI ((((y2.1.drop v1.toNat).take ((IntKind.i64.wrap (v1 + (2 : Int))).toNat - v1.toNat)).getD v3.toNat z_FoldPage).f2),dI ((((y2.1.drop v1.toNat).take ((IntKind.i64.wrap (v1 + (2 : Int))).toNat - v1.toNat)).getD v3.toNat z_FoldPage).f3)]),(16,.box [dI p.1,dI p.2.1,.d (.sl 1 (p.2.2.map cU))]),(64,.d (.sl 4 (((y2.1.drop v1.toNat).take ((IntKind.i64.wrap (v1 + (2 : Int))).toNat - v1.toNat)).map cS_FoldPage))),(65,dI z1),(66,dI v3)]) (fun s h => ?_) (fun s h => ?_)
                · obtain ⟨z2,hz2,h⟩ := lett_ok h
                  refine T_reg [(1,{ rw := some (dB z2) })] [2,3,8,9,11,12,13,14,15,16,64,65,66,74] [(74,dB z2)] [(1,(True) ∧ dB ((((y2.1.drop v1.toNat).take ((IntKind.i64.wrap (v1 + (2 : Int))).toNat - v1.toNat)).getD v3.toNat z_FoldPage).f0) = dB z2)] 0 (by kernel_rfl) (⟨trivial,(by subst hz2; rfl)⟩) ?_
                  refine T_cond z2 (by kernel_rfl) (fun hc => ?_) (fun hc => ?_)
                  · have h := cond_tt hc h
                    obtain hs := Option.some.inj h; subst hs
                    refine T_reg_end [] [2,3,8,9,11,12,13,14,15,16,64,65,66] [(16,bx_Plate a0.f1)] [] 3 (by kernel_rfl) (trivial) fun a w hm => then_norm (hm.co (cs := [.keep [2,3,8,9,11,12,13,14,15,16,64,65,66]]) (by show _ = _; kernel_rfl))
                  · have h := cond_ff hc h
                    obtain hs := Option.some.inj h; subst hs
                    refine T_skip fun a w hm => then_norm (hm.co (cs := [.keep [2,3,8,9,11,12,13,14,15,16,64,65,66]]) (by show _ = _; kernel_rfl))
                · obtain ⟨v4,v5,v6⟩ := s
                  try dsimp only at h
                  refine T_draw mixed [] [2,3,8,9,11,12,13,14,15,16,17,18,64,65,66] [] [(2,bx_BinderySheet a0),(3,bx_ImposeLayout a1),(8,bx_bindery_frame y1),(9,.d (.sl 4 (y2.1.map cS_FoldPage))),(11,oW7 v9),(12,dI v1),(13,.arr 68 3 (v2.map cS_Plate)),(14,dI v3),(15,.box [dB ((((y2.1.drop v1.toNat).take ((IntKind.i64.wrap (v1 + (2 : Int))).toNat - v1.toNat)).getD v3.toNat z_FoldPage).f0),dI ((((y2.1.drop v1.toNat).take ((IntKind.i64.wrap (v1 + (2 : Int))).toNat - v1.toNat)).getD v3.toNat z_FoldPage).f1),dI ((((y2.1.drop v1.toNat).take ((IntKind.i64.wrap (v1 + (2 : Int))).toNat - v1.toNat)).getD v3.toNat z_FoldPage).f2),dI ((((y2.1.drop v1.toNat).take ((IntKind.i64.wrap (v1 + (2 : Int))).toNat - v1.toNat)).getD v3.toNat z_FoldPage).f3)]),(16,.box [dI v4,dI v5,.d (.sl 1 (v6.map cU))]),(17,dI y1.f0),(18,dI y1.f1),(64,.d (.sl 4 (((y2.1.drop v1.toNat).take ((IntKind.i64.wrap (v1 + (2 : Int))).toNat - v1.toNat)).map cS_FoldPage))),(65,dI z1),(66,dI v3)] [] 6 (by kernel_rfl) (trivial) ?_
                  refine T_joinc h (fun (p : Int × Int) => [(2,bx_BinderySheet a0),(3,bx_ImposeLayout a1),(8,bx_bindery_frame y1),(9,.d (.sl 4 (y2.1.map cS_FoldPage))),(11,oW7 v9),(12,dI v1),(13,.arr 68 3 (v2.map cS_Plate)),(14,dI v3),(15,.box [dB ((((y2.1.drop v1.toNat).take ((IntKind.i64.wrap (v1 + (2 : Int))).toNat - v1.toNat)).getD v3.toNat z_FoldPage).f0),dI ((((y2.1.drop v1.toNat).take ((IntKind.i64.wrap (v1 + (2 : Int))).toNat - v1.toNat)).getD v3.toNat z_FoldPage).f1),dI ((((y2.1.drop v1.toNat).take ((IntKind.i64.wrap (v1 + (2 : Int))).toNat - v1.toNat)).getD v3.toNat z_FoldPage).f2),dI ((((y2.1.drop v1.toNat).take ((IntKind.i64.wrap (v1 + (2 : Int))).toNat - v1.toNat)).getD v3.toNat z_FoldPage).f3)]),(16,.box [dI v4,dI v5,.d (.sl 1 (v6.map cU))]),(17,dI p.1),(18,dI p.2),(64,.d (.sl 4 (((y2.1.drop v1.toNat).take ((IntKind.i64.wrap (v1 + (2 : Int))).toNat - v1.toNat)).map cS_FoldPage))),(65,dI z1),(66,dI v3)]) (fun s h => ?_) (fun s h => ?_)
                  · obtain ⟨z3,hz3,h⟩ := lett_ok h
                    refine T_reg [(1,{ rw := some (dI z3) })] [2,3,8,9,11,12,13,14,15,16,17,18,64,65,66,84] [(84,dB ((z3.tmod (2 : Int)) == (1 : Int)))] [(1,(True) ∧ dI ((((y2.1.drop v1.toNat).take ((IntKind.i64.wrap (v1 + (2 : Int))).toNat - v1.toNat)).getD v3.toNat z_FoldPage).f3) = dI z3),(0,(2 : Int) ≠ 0)] 1 (by kernel_rfl) (⟨⟨trivial,(by subst hz3; rfl)⟩,(show (2 : Int) ≠ 0 by decide)⟩) ?_
                    refine T_cond ((z3.tmod (2 : Int)) == (1 : Int)) (by kernel_rfl) (fun hc => ?_) (fun hc => ?_)
                    · have h := cond_tt hc h
                      obtain hs := Option.some.inj h; subst hs
                      refine T_reg_end [] [2,3,8,9,11,12,13,14,15,16,17,18,64,65,66] [(17,dI y1.f1),(18,dI y1.f0)] [] 4 (by kernel_rfl) (trivial) fun a w hm => then_norm (hm.co (cs := [.keep [2,3,8,9,11,12,13,14,15,16,17,18,64,65,66]]) (by show _ = _; kernel_rfl))
                    · have h := cond_ff hc h
                      obtain hs := Option.some.inj h; subst hs
                      refine T_skip fun a w hm => then_norm (hm.co (cs := [.keep [2,3,8,9,11,12,13,14,15,16,17,18,64,65,66]]) (by show _ = _; kernel_rfl))
                  · obtain ⟨v7,v8⟩ := s
                    try dsimp only at h
                    obtain ⟨z4,hz4,h⟩ := lett_ok h
                    obtain ⟨z5,hz5,h⟩ := lett_ok h
                    obtain ⟨z6,hz6,h⟩ := lett_ok h
                    obtain ⟨y3,hy5,h⟩ := call_ok h
                    obtain ⟨hp3,h⟩ := chk_ok h
                    refine T_reg_end [(5,{ rw := some (dI z4) }),(12,{ rw := some (dI z5) }),(19,{ rw := some (dI z6) }),(21,{ res := .agg (cS_Plate y3) }),(23,{ cs := cS_Plate (v2.getD v3.toNat z_Plate),es := some ((v2.set v3.toNat y3).map cS_Plate) })] [2,3,8,9,11,12,13,64,65,66] [(13,.arr 68 3 ((v2.set v3.toNat y3).map cS_Plate))] [(5,(True) ∧ dI ((((y2.1.drop v1.toNat).take ((IntKind.i64.wrap (v1 + (2 : Int))).toNat - v1.toNat)).getD v3.toNat z_FoldPage).f1) = dI z4),(6,(True) ∧ dI ((((y2.1.drop v1.toNat).take ((IntKind.i64.wrap (v1 + (2 : Int))).toNat - v1.toNat)).getD v3.toNat z_FoldPage).f2) = dI z5),(6,(True) ∧ dI ((((y2.1.drop v1.toNat).take ((IntKind.i64.wrap (v1 + (2 : Int))).toNat - v1.toNat)).getD v3.toNat z_FoldPage).f3) = dI z6),(1,ACall Try.prog 21 [.agg (cS_Plate (S_Plate.mk v4 v5 v6)),dI (IntKind.i64.wrap (a1.f6 + (IntKind.i64.wrap (z4 * v7)))),dI (IntKind.i64.wrap (a1.f6 + (IntKind.i64.wrap (z5 * v8)))),dI v7,dI v8,dI (IntKind.i64.wrap ((4 : Int) - z6))] [] (.agg (cS_Plate y3)) []),(0,0 ≤ v3 ∧ v3 < 2),(0,(v2.map cS_Plate)[v3.toNat]? = some (cS_Plate (v2.getD v3.toNat z_Plate)) ∧ (v2.map cS_Plate).set v3.toNat (cS_Plate y3) = ((v2.set v3.toNat y3).map cS_Plate))] 0 (by kernel_rfl) (⟨⟨trivial,(by subst hz4; rfl)⟩,⟨trivial,(by subst hz5; rfl)⟩,⟨trivial,(by subst hz6; rfl)⟩,bindery_part_ok hy5,(hp3).1,⟨(idx_ok (d := z_Plate) cS_Plate ⟨(hp3).1.1,(hp3).2⟩).2,set_ok cS_Plate rfl⟩⟩) fun a w hm => inBlock_norm (then_norm (((?_ : T Try.prog e 120 _ _ _) a w hm)))
                    refine T_reg_end [] [2,3,8,9,11,12,13,64,65,66] [(66,dI (IntKind.i64.wrap (v3 + (1 : Int))))] [] 2 (by kernel_rfl) (trivial) fun a w hm => then_norm (⟨((v2.set v3.toNat y3),IntKind.i64.wrap (v3 + (1 : Int))),h,hm.co (cs := [.keep [2,3,8,9,11,12,13,64,65,66]]) (by show _ = _; kernel_rfl)⟩)
              · have h := cond_ff hc h
                obtain hs := Option.some.inj h; subst hs
                refine T_exit fun a w hm => then_exit (then_exit (inBlock_exit (then_norm (hm.co (cs := [.keep [2,3,8,9,11,12,13]]) (by show _ = _; kernel_rfl)))))
            · skip
              refine fun a w hm => then_norm (((?_ : T Try.prog e 120 _ _ _) a w hm))
              obtain ⟨hp4,h⟩ := chk_ok h
              obtain ⟨hp5,h⟩ := chk_ok h
              obtain ⟨hp6,h⟩ := chk_ok h
              obtain ⟨l1,hl1,h⟩ := lett_ok h
              refine T_reg_end [(2,{ cs := cS_Plate (v10.getD (0 : Int).toNat z_Plate) }),(4,{ cs := cS_Plate (v10.getD (1 : Int).toNat z_Plate) }),(6,{ es := some (([(S_BinderyLeaf.mk (v10.getD (0 : Int).toNat z_Plate) (v10.getD (1 : Int).toNat z_Plate))]).map cS_BinderyLeaf) }),(7,{ es := some (l1.map cS_BinderyLeaf) })] [2,3,8,9,11,12] [(11,oW7 l1)] [(1,0 ≤ (0 : Int) ∧ (0 : Int) < 2),(0,(v10.map cS_Plate)[(0 : Int).toNat]? = some (cS_Plate (v10.getD (0 : Int).toNat z_Plate))),(0,0 ≤ (1 : Int) ∧ (1 : Int) < 2),(0,(v10.map cS_Plate)[(1 : Int).toNat]? = some (cS_Plate (v10.getD (1 : Int).toNat z_Plate))),(1,(([(S_BinderyLeaf.mk (v10.getD (0 : Int).toNat z_Plate) (v10.getD (1 : Int).toNat z_Plate))]).map cS_BinderyLeaf) = (([(S_BinderyLeaf.mk (v10.getD (0 : Int).toNat z_Plate) (v10.getD (1 : Int).toNat z_Plate))]).map cS_BinderyLeaf)),(0,(v9.map cS_BinderyLeaf).length + (([(S_BinderyLeaf.mk (v10.getD (0 : Int).toNat z_Plate) (v10.getD (1 : Int).toNat z_Plate))]).map cS_BinderyLeaf).length ≤ 4294967296 ∧ (v9.map cS_BinderyLeaf) ++ (([(S_BinderyLeaf.mk (v10.getD (0 : Int).toNat z_Plate) (v10.getD (1 : Int).toNat z_Plate))]).map cS_BinderyLeaf) = (l1.map cS_BinderyLeaf))] 1 (by kernel_rfl) (⟨(hp4).1,(idx_ok (d := z_Plate) cS_Plate ⟨(hp4).1.1,(hp4).2⟩).2,(hp5).1,(idx_ok (d := z_Plate) cS_Plate ⟨(hp5).1.1,(hp5).2⟩).2,rfl,and_trans (app_ok cS_BinderyLeaf hp6) (by subst hl1; rfl)⟩) fun a w hm => inBlock_norm (then_norm (((?_ : T Try.prog e 120 _ _ _) a w hm)))
              refine T_reg_end [] [2,3,8,9,11,12] [(12,dI (IntKind.i64.wrap (v1 + (2 : Int))))] [] 3 (by kernel_rfl) (trivial) fun a w hm => then_norm (⟨(l1,IntKind.i64.wrap (v1 + (2 : Int))),h,hm.co (cs := [.keep [2,3,8,9,11,12]]) (by show _ = _; kernel_rfl)⟩)
          · have h := cond_ff hc h
            obtain hs := Option.some.inj h; subst hs
            refine T_exit fun a w hm => then_exit (then_exit (inBlock_exit (then_norm (hm.co (cs := [.keep [11]]) (by show _ = _; kernel_rfl)))))
        · skip
          refine fun a w hm => then_norm (((?_ : T Try.prog e 120 _ _ _) a w hm))
          refine T_reg [] [4,5,11] [(4,.vw (11,0)),(5,dI (0 : Int))] [] 3 (by kernel_rfl) (trivial) ?_
          obtain hs := Option.some.inj h; subst hs
          refine T_ret fun a w hm => T_return (fr' := [(4,oW7 v11),(5,dI (0 : Int))]) [4,5] (by kernel_rfl) [.claim 4,.keep [4,5]] (by kernel_rfl) (by kernel_rfl) (by kernel_rfl) (by show _ = _; kernel_rfl) (by exact trivial) a w hm
theorem ref3_PlateError_ok {F : Nat} {a0 : S_Plate} {r : Int} (h : ref3_PlateError F a0 = some r) : ACall Try.prog 8 [.agg (cS_Plate a0)] [] (.d (.v (.int .i64 r))) [] := by
  rw [ref3_PlateError] at h
  refine ACall.intro (N := 30) Try.func8 rfl rfl rfl rfl rfl fun e => ?_
  refine T_reg [] [1] [(1,bx_Plate a0)] [] 2 (by kernel_rfl) (trivial) ?_
  refine T_seqk ?_
  obtain ⟨z1,hz1,h⟩ := lett_ok h
  refine T_reg [(12,{ rw := some (dB z1) })] [1,20] [(20,dB (bif z1 then true else (decide (a0.f1 > (1024 : Int)))))] [(4,((((decide (a0.f0 < (1 : Int))) == false) && true) = true → True)),(0,((((decide (a0.f0 < (1 : Int))) == false) && true) = true → True)),(0,((((decide (a0.f0 < (1 : Int))) == false) && true) = true → True)),(2,((((bif (decide (a0.f0 < (1 : Int))) then true else (decide (a0.f0 > (1024 : Int)))) == false) && true) = true → True)),(0,((((bif (decide (a0.f0 < (1 : Int))) then true else (decide (a0.f0 > (1024 : Int)))) == false) && true) = true → True)),(0,((((bif (decide (a0.f0 < (1 : Int))) then true else (decide (a0.f0 > (1024 : Int)))) == false) && true) = true → True)),(0,(True) ∧ dB (bif (bif (decide (a0.f0 < (1 : Int))) then true else (decide (a0.f0 > (1024 : Int)))) then true else (decide (a0.f1 < (1 : Int)))) = dB z1),(1,(((z1 == false) && true) = true → True)),(0,(((z1 == false) && true) = true → True)),(0,(((z1 == false) && true) = true → True))] 1 (by kernel_rfl) (⟨(fun hg => trivial),(fun hg => trivial),(fun hg => trivial),(fun hg => trivial),(fun hg => trivial),(fun hg => trivial),⟨trivial,(by subst hz1; rfl)⟩,(fun hg => trivial),(fun hg => trivial),(fun hg => trivial)⟩) ?_
  refine T_cond (bif z1 then true else (decide (a0.f1 > (1024 : Int)))) (by kernel_rfl) (fun hc => ?_) (fun hc => ?_)
  · have h := cond_tt hc h
    refine T_reg [] [2] [(2,dI (3 : Int))] [] 1 (by kernel_rfl) (trivial) ?_
    obtain hs := Option.some.inj h; subst hs
    refine T_ret fun a w hm => then_ret (T_return (fr' := [(2,dI (3 : Int))]) [2] (by kernel_rfl) [.keep [2]] (by kernel_rfl) (by kernel_rfl) (by kernel_rfl) (by show _ = _; kernel_rfl) (by exact trivial) a w hm)
  · have h := cond_ff hc h
    refine T_skip fun a w hm => then_norm (((?_ : T Try.prog e 30 _ _ _) a w hm))
    refine T_seqk ?_
    refine T_reg [(2,{ rw := some (dI (a0.f2.length : Int)) })] [29] [(29,dB ((a0.f2.length : Int) != (IntKind.i64.wrap (a0.f0 * a0.f1))))] [(2,True ∧ dI ((a0.f2.map cU).length : Int) = dI (a0.f2.length : Int))] 6 (by kernel_rfl) (len_ok cU) ?_
    refine T_cond ((a0.f2.length : Int) != (IntKind.i64.wrap (a0.f0 * a0.f1))) (by kernel_rfl) (fun hc => ?_) (fun hc => ?_)
    · have h := cond_tt hc h
      refine T_reg [] [2] [(2,dI (4 : Int))] [] 1 (by kernel_rfl) (trivial) ?_
      obtain hs := Option.some.inj h; subst hs
      refine T_ret fun a w hm => then_ret (T_return (fr' := [(2,dI (4 : Int))]) [2] (by kernel_rfl) [.keep [2]] (by kernel_rfl) (by kernel_rfl) (by kernel_rfl) (by show _ = _; kernel_rfl) (by exact trivial) a w hm)
    · have h := cond_ff hc h
      refine T_skip fun a w hm => then_norm (((?_ : T Try.prog e 30 _ _ _) a w hm))
      refine T_reg [] [2] [(2,dI (0 : Int))] [] 1 (by kernel_rfl) (trivial) ?_
      obtain hs := Option.some.inj h; subst hs
      refine T_ret fun a w hm => T_return (fr' := [(2,dI (0 : Int))]) [2] (by kernel_rfl) [.keep [2]] (by kernel_rfl) (by kernel_rfl) (by kernel_rfl) (by show _ = _; kernel_rfl) (by exact trivial) a w hm
theorem ref3_Leafed_ok {F : Nat} {a0 : S_ImposeLayout} {a1 : List S_FoldPage} {a2 : Int} {a3 : Bool} {a4 : Int} {a5 : Int} {r : Bool × Int × Int} (h : ref3_Leafed F a0 a1 a2 a3 a4 a5 = some r) : ACall Try.prog 15 [.agg (cS_ImposeLayout a0),.d (.sl 4 (a1.map cS_FoldPage)),.d (.v (.int .i64 a2)),.d (.v (.bool a3)),.d (.v (.int .i64 a4)),.d (.v (.int .i64 a5))] [] (.tup [.d (.v (.bool r.1)),.d (.v (.int .i64 r.2.1)),.d (.v (.int .i64 r.2.2))]) [] := by
  rw [ref3_Leafed] at h
  refine ACall.intro (N := 81) Try.func15 rfl rfl rfl rfl rfl fun e => ?_
  refine T_reg [] [1,2,3,4,5,6] [(6,bx_ImposeLayout a0)] [] 4 (by kernel_rfl) (trivial) ?_
  refine T_reg [] [1,3,4,5,6,15] [(15,dI (IntKind.i64.wrap ((2 : Int) * a2)))] [] 3 (by kernel_rfl) (trivial) ?_
  refine T_joinc h (fun (p : Int) => [(1,.d (.sl 4 (a1.map cS_FoldPage))),(4,dI a4),(5,dI a5),(6,bx_ImposeLayout a0),(15,dI p)]) (fun s h => ?_) (fun v1 h => ?_)
  · refine T_reg [] [1,4,5,6,15,23] [(23,dB a3)] [] 1 (by kernel_rfl) (trivial) ?_
    refine T_cond a3 (by kernel_rfl) (fun hc => ?_) (fun hc => ?_)
    · have h := cond_tt hc h
      obtain hs := Option.some.inj h; subst hs
      refine T_reg_end [] [1,4,5,6,15] [(15,dI (IntKind.i64.wrap ((IntKind.i64.wrap ((2 : Int) * a2)) + (1 : Int))))] [] 3 (by kernel_rfl) (trivial) fun a w hm => then_norm (hm.co (cs := [.keep [1,4,5,6,15]]) (by show _ = _; kernel_rfl))
    · have h := cond_ff hc h
      obtain hs := Option.some.inj h; subst hs
      refine T_skip fun a w hm => then_norm (hm.co (cs := [.keep [1,4,5,6,15]]) (by show _ = _; kernel_rfl))
  · skip
    obtain ⟨hp1,h⟩ := chk_ok h
    refine T_reg [(2,{ cs := cS_FoldPage (a1.getD v1.toNat z_FoldPage) })] [4,5,6,16] [(16,.box [dB ((a1.getD v1.toNat z_FoldPage).f0),dI ((a1.getD v1.toNat z_FoldPage).f1),dI ((a1.getD v1.toNat z_FoldPage).f2),dI ((a1.getD v1.toNat z_FoldPage).f3)])] [(2,0 ≤ v1 ∧ (a1.map cS_FoldPage)[v1.toNat]? = some (cS_FoldPage (a1.getD v1.toNat z_FoldPage)))] 3 (by kernel_rfl) (idx_ok (d := z_FoldPage) cS_FoldPage hp1) ?_
    obtain ⟨y1,hy1,h⟩ := call_ok h
    refine T_reg [(1,{ res := .tup [dI y1.1,dI y1.2] })] [4,5,6,16,17,18] [(17,dI y1.1),(18,dI y1.2)] [(1,ACall Try.prog 25 [.agg (cS_ImposeLayout a0)] [] (.tup [dI y1.1,dI y1.2]) [])] 5 (by kernel_rfl) (ref3_leafSize_ok hy1) ?_
    refine T_draw mixed [] [4,5,6,16,17,18,19,20] [] [(4,dI a4),(5,dI a5),(6,bx_ImposeLayout a0),(16,.box [dB ((a1.getD v1.toNat z_FoldPage).f0),dI ((a1.getD v1.toNat z_FoldPage).f1),dI ((a1.getD v1.toNat z_FoldPage).f2),dI ((a1.getD v1.toNat z_FoldPage).f3)]),(17,dI y1.1),(18,dI y1.2),(19,dI (IntKind.i64.wrap ((IntKind.i64.wrap (a0.f1 + a0.f4)) + a0.f5))),(20,dI (IntKind.i64.wrap (a0.f2 + (IntKind.i64.wrap ((2 : Int) * a0.f3)))))] [] 16 (by kernel_rfl) (trivial) ?_
    refine T_seqk ?_
    refine T_reg [] [4,5,6,16,17,18,19,20,50,51] [(50,dI ((a1.getD v1.toNat z_FoldPage).f3)),(51,dI (0 : Int))] [] 3 (by kernel_rfl) (trivial) ?_
    refine T_joinct h (fun (p : Int × Int) => [(4,dI p.1),(5,dI p.2),(6,bx_ImposeLayout a0),(16,.box [dB ((a1.getD v1.toNat z_FoldPage).f0),dI ((a1.getD v1.toNat z_FoldPage).f1),dI ((a1.getD v1.toNat z_FoldPage).f2),dI ((a1.getD v1.toNat z_FoldPage).f3)]),(17,dI y1.1),(18,dI y1.2)]) (fun s h => ?_) (fun s h => ?_)
    · refine T_co [.keep [4,5,6,16,17,18,19,20,50,51]] ((fun (p : Int × Int × Int × Int × Int) => [(4,dI p.1),(5,dI p.2.1),(6,bx_ImposeLayout a0),(16,.box [dB ((a1.getD v1.toNat z_FoldPage).f0),dI ((a1.getD v1.toNat z_FoldPage).f1),dI ((a1.getD v1.toNat z_FoldPage).f2),dI ((a1.getD v1.toNat z_FoldPage).f3)]),(17,dI y1.1),(18,dI y1.2),(19,dI p.2.2.1),(20,dI p.2.2.2.1),(50,dI ((a1.getD v1.toNat z_FoldPage).f3)),(51,dI p.2.2.2.2)]) (a4,a5,IntKind.i64.wrap ((IntKind.i64.wrap (a0.f1 + a0.f4)) + a0.f5),IntKind.i64.wrap (a0.f2 + (IntKind.i64.wrap ((2 : Int) * a0.f3))),(0 : Int))) (by show _ = _; kernel_rfl) ?_
      refine T_block ?_
      refine T_loopF (ι := Int × Int × Int × Int × Int) (fun (p : Int × Int × Int × Int × Int) => [(4,dI p.1),(5,dI p.2.1),(6,bx_ImposeLayout a0),(16,.box [dB ((a1.getD v1.toNat z_FoldPage).f0),dI ((a1.getD v1.toNat z_FoldPage).f1),dI ((a1.getD v1.toNat z_FoldPage).f2),dI ((a1.getD v1.toNat z_FoldPage).f3)]),(17,dI y1.1),(18,dI y1.2),(19,dI p.2.2.1),(20,dI p.2.2.2.1),(50,dI ((a1.getD v1.toNat z_FoldPage).f3)),(51,dI p.2.2.2.2)]) (fun n p => ref3_Leafed_L0 F a1 v1 n p.1 p.2.1 p.2.2.1 p.2.2.2.1 p.2.2.2.2 = some s) (fun i hh => by simp [ref3_Leafed_L0] at hh) (fun n p h => ?_) F (a4,a5,IntKind.i64.wrap ((IntKind.i64.wrap (a0.f1 + a0.f4)) + a0.f5),IntKind.i64.wrap (a0.f2 + (IntKind.i64.wrap ((2 : Int) * a0.f3))),(0 : Int)) h
      obtain ⟨v2,v3,v4,v5,v6⟩ := p
      have h : ref3_Leafed_L0 F a1 v1 (n + 1) v2 v3 v4 v5 v6 = some s := h
      rw [ref3_Leafed_L0] at h
      refine T_reg [] [4,5,6,16,17,18,19,20,50,51,52] [(52,dB (decide (v6 < ((a1.getD v1.toNat z_FoldPage).f3))))] [] 1 (by kernel_rfl) (trivial) ?_
      refine T_seqk ?_
      refine T_cond (decide (v6 < ((a1.getD v1.toNat z_FoldPage).f3))) (by kernel_rfl) (fun hc => ?_) (fun hc => ?_)
      · have h := cond_tt hc h
        refine T_skip fun a w hm => then_norm (((?_ : T Try.prog e 81 _ _ _) a w hm))
        refine T_seqk ?_
        refine T_block ?_
        refine T_reg [] [4,5,6,16,17,18,19,20,50,51] [(4,dI (IntKind.i64.wrap ((IntKind.i64.wrap (v5 - (1 : Int))) - v3))),(5,dI v2)] [] 7 (by kernel_rfl) (trivial) ?_
        refine T_reg_end [] [4,5,6,16,17,18,19,20,50,51] [(19,dI v5),(20,dI v4)] [] 4 (by kernel_rfl) (trivial) fun a w hm => inBlock_norm (then_norm (((?_ : T Try.prog e 81 _ _ _) a w hm)))
        refine T_reg_end [] [4,5,6,16,17,18,19,20,50,51] [(51,dI (IntKind.i64.wrap (v6 + (1 : Int))))] [] 2 (by kernel_rfl) (trivial) fun a w hm => then_norm (⟨(IntKind.i64.wrap ((IntKind.i64.wrap (v5 - (1 : Int))) - v3),v2,v5,v4,IntKind.i64.wrap (v6 + (1 : Int))),h,hm.co (cs := [.keep [4,5,6,16,17,18,19,20,50,51]]) (by show _ = _; kernel_rfl)⟩)
      · have h := cond_ff hc h
        obtain hs := Option.some.inj h; subst hs
        refine T_exit fun a w hm => then_exit (then_exit (inBlock_exit (then_norm (hm.co (cs := [.keep [4,5,6,16,17,18]]) (by show _ = _; kernel_rfl)))))
    · obtain ⟨v7,v8⟩ := s
      try dsimp only at h
      refine fun a w hm => then_norm (((?_ : T Try.prog e 81 _ _ _) a w hm))
      obtain ⟨z1,hz1,h⟩ := lett_ok h
      obtain ⟨z2,hz2,h⟩ := lett_ok h
      refine T_draw mixed [(8,{ rw := some (dI z1) }),(17,{ rw := some (dI z2) })] [12,13,14] [] [(12,dB ((a1.getD v1.toNat z_FoldPage).f0)),(13,dI (IntKind.i64.wrap (z1 + v7))),(14,dI (IntKind.i64.wrap (z2 + v8)))] [(8,(True) ∧ dI (IntKind.i64.wrap (a0.f6 + (IntKind.i64.wrap (((a1.getD v1.toNat z_FoldPage).f1) * y1.1)))) = dI z1),(8,(True) ∧ dI (IntKind.i64.wrap (a0.f6 + (IntKind.i64.wrap (((a1.getD v1.toNat z_FoldPage).f2) * y1.2)))) = dI z2)] 5 (by kernel_rfl) (⟨⟨trivial,(by subst hz1; rfl)⟩,⟨trivial,(by subst hz2; rfl)⟩⟩) ?_
      obtain hs := Option.some.inj h; subst hs
      refine T_ret fun a w hm => T_return (fr' := [(12,dB ((a1.getD v1.toNat z_FoldPage).f0)),(13,dI (IntKind.i64.wrap (z1 + v7))),(14,dI (IntKind.i64.wrap (z2 + v8)))]) [12,13,14] (by kernel_rfl) [.keep [12,13,14]] (by kernel_rfl) (by kernel_rfl) (by kernel_rfl) (by show _ = _; kernel_rfl) (by exact trivial) a w hm
theorem ref3_Pix_ok {F : Nat} {a0 : S_Plate} {a1 : Int} {a2 : Int} {r : Int} (h : ref3_Pix F a0 a1 a2 = some r) : ACall Try.prog 16 [.agg (cS_Plate a0),.d (.v (.int .i64 a1)),.d (.v (.int .i64 a2))] [] (.d (.v (.int .u8 r))) [] := by
  rw [ref3_Pix] at h
  refine ACall.intro (N := 17) Try.func16 rfl rfl rfl rfl rfl fun e => ?_
  refine T_reg [] [1,2,3] [(3,bx_Plate a0)] [] 2 (by kernel_rfl) (trivial) ?_
  obtain ⟨hp1,h⟩ := chk_ok h
  refine T_reg [(8,{ cs := cU (a0.f2.getD (IntKind.i64.wrap ((IntKind.i64.wrap (a2 * a0.f0)) + a1)).toNat 0) })] [6] [(6,.d (.v (.int .u8 ((a0.f2.getD (IntKind.i64.wrap ((IntKind.i64.wrap (a2 * a0.f0)) + a1)).toNat 0).toNat : Int))))] [(8,0 ≤ (IntKind.i64.wrap ((IntKind.i64.wrap (a2 * a0.f0)) + a1)) ∧ (a0.f2.map cU)[(IntKind.i64.wrap ((IntKind.i64.wrap (a2 * a0.f0)) + a1)).toNat]? = some (cU (a0.f2.getD (IntKind.i64.wrap ((IntKind.i64.wrap (a2 * a0.f0)) + a1)).toNat 0)))] 2 (by kernel_rfl) (idx_ok (d := 0) cU hp1) ?_
  obtain hs := Option.some.inj h; subst hs
  refine T_ret fun a w hm => T_return (fr' := [(6,.d (.v (.int .u8 ((a0.f2.getD (IntKind.i64.wrap ((IntKind.i64.wrap (a2 * a0.f0)) + a1)).toNat 0).toNat : Int))))]) [6] (by kernel_rfl) [.keep [6]] (by kernel_rfl) (by kernel_rfl) (by kernel_rfl) (by show _ = _; kernel_rfl) (by exact trivial) a w hm
theorem law3_BinderyFoldMatchesReference_ok {F : Nat} {a0 : S_ImposeLayout} {r : Bool} (h : law3_BinderyFoldMatchesReference F a0 = some r) : ACall Try.prog 4 [.agg (cS_ImposeLayout a0)] [] (.d (.v (.bool r))) [] := by
  rw [law3_BinderyFoldMatchesReference] at h
  refine ACall.intro (N := 149) Try.func4 rfl rfl rfl rfl rfl fun e => ?_
  refine T_reg [] [1] [(1,bx_ImposeLayout a0)] [] 2 (by kernel_rfl) (trivial) ?_
  refine T_seqk ?_
  obtain ⟨y11,hy1,h⟩ := call_ok h
  refine T_reg [(0,{ res := dB y11 })] [1,21] [(21,dB (!y11))] [(0,ACall Try.prog 12 [] [] (dB y11) [])] 1 (by kernel_rfl) (law3_imposeFact_ok hy1) ?_
  refine T_cond (!y11) (by kernel_rfl) (fun hc => ?_) (fun hc => ?_)
  · have h := cond_tt hc h
    refine T_reg [] [2] [(2,dB false)] [] 1 (by kernel_rfl) (trivial) ?_
    obtain hs := Option.some.inj h; subst hs
    refine T_ret fun a w hm => then_ret (T_return (fr' := [(2,dB false)]) [2] (by kernel_rfl) [.keep [2]] (by kernel_rfl) (by kernel_rfl) (by kernel_rfl) (by show _ = _; kernel_rfl) (by exact trivial) a w hm)
  · have h := cond_ff hc h
    refine T_skip fun a w hm => then_norm (((?_ : T Try.prog e 149 _ _ _) a w hm))
    obtain ⟨y1,hy2,h⟩ := call_ok h
    refine T_reg [(1,{ res := .agg (cS_ImposeLayout y1) })] [1] [(1,bx_ImposeLayout y1)] [(1,ACall Try.prog 13 [.agg (cS_ImposeLayout a0)] [] (.agg (cS_ImposeLayout y1)) [])] 1 (by kernel_rfl) (law3_tiny_ok hy2) ?_
    refine T_seqk ?_
    obtain ⟨y12,hy3,h⟩ := call_ok h
    refine T_reg [(1,{ res := dI y12 })] [1,26] [(26,dB (y12 != (0 : Int)))] [(1,ACall Try.prog 10 [.agg (cS_ImposeLayout y1)] [] (dI y12) [])] 1 (by kernel_rfl) (ref3_LayoutError_ok hy3) ?_
    refine T_cond (y12 != (0 : Int)) (by kernel_rfl) (fun hc => ?_) (fun hc => ?_)
    · have h := cond_tt hc h
      refine T_reg [] [2] [(2,dB true)] [] 1 (by kernel_rfl) (trivial) ?_
      obtain hs := Option.some.inj h; subst hs
      refine T_ret fun a w hm => then_ret (T_return (fr' := [(2,dB true)]) [2] (by kernel_rfl) [.keep [2]] (by kernel_rfl) (by kernel_rfl) (by kernel_rfl) (by show _ = _; kernel_rfl) (by exact trivial) a w hm)
    · have h := cond_ff hc h
      refine T_skip fun a w hm => then_norm (((?_ : T Try.prog e 149 _ _ _) a w hm))
      obtain ⟨y13,hy4,h⟩ := call_ok h
      refine T_reg [(1,{ res := .tup [dI y13.1,dI y13.2] })] [1,3,4] [(3,dI y13.1),(4,dI y13.2)] [(1,ACall Try.prog 11 [.agg (cS_ImposeLayout y1)] [] (.tup [dI y13.1,dI y13.2]) [])] 5 (by kernel_rfl) (ref3_SingleSize_ok hy4) ?_
      obtain ⟨y2,hy5,h⟩ := call_ok h
      obtain ⟨y3,hy6,h⟩ := call_ok h
      refine T_reg [(2,{ res := .agg (cS_Plate y2) }),(5,{ res := .agg (cS_Plate y3) })] [1,5] [(5,.box [dI y2.f0,dI y2.f1,.d (.sl 1 (y2.f2.map cU)),dI y3.f0,dI y3.f1,.d (.sl 1 (y3.f2.map cU))])] [(2,ACall Try.prog 7 [dI y13.1,dI y13.2,dI (1 : Int)] [] (.agg (cS_Plate y2)) []),(2,ACall Try.prog 7 [dI y13.1,dI y13.2,dI (100 : Int)] [] (.agg (cS_Plate y3)) [])] 3 (by kernel_rfl) (⟨law3_dots_ok hy5,law3_dots_ok hy6⟩) ?_
      obtain ⟨y4,hy7,h⟩ := call_ok h
      refine T_reg [(2,{ res := .tup [oW7 y4.1,dI y4.2] })] [1,5,6,7] [(6,oW7 y4.1),(7,dI y4.2)] [(2,ACall Try.prog 9 [.agg (cS_BinderySheet (S_BinderySheet.mk y2 y3)),.agg (cS_ImposeLayout y1)] [] (.tup [oW7 y4.1,dI y4.2]) [])] 5 (by kernel_rfl) (bindery_Fold_ok hy7) ?_
      obtain ⟨y5,hy8,h⟩ := call_ok h
      refine T_reg [(2,{ res := .tup [oW3 y5.1,dI y5.2] })] [1,5,6,7,8] [(8,oW3 y5.1)] [(2,ACall Try.prog 14 [.agg (cS_FoldScheme y1.f0)] [] (.tup [oW3 y5.1,dI y5.2]) [])] 5 (by kernel_rfl) (ref3_Read_ok hy8) ?_
      refine T_seqk ?_
      obtain ⟨z7,hz1,h⟩ := lett_ok h
      refine T_reg [(4,{ rw := some (dI (y4.1.length : Int)) }),(7,{ rw := some (dI (y5.1.length : Int)) }),(9,{ rw := some (dB z7) })] [1,5,6,8,60] [(60,dB z7)] [(3,((((y4.2 != (0 : Int)) == false) && true) = true → True)),(0,((((y4.2 != (0 : Int)) == false) && true) = true → True ∧ dI ((y4.1.map cS_BinderyLeaf).length : Int) = dI (y4.1.length : Int))),(0,((((y4.2 != (0 : Int)) == false) && true) = true → True)),(0,((((y4.2 != (0 : Int)) == false) && true) = true → True)),(0,((((y4.2 != (0 : Int)) == false) && true) = true → True ∧ dI ((y5.1.map cS_FoldPage).length : Int) = dI (y5.1.length : Int))),(0,((((y4.2 != (0 : Int)) == false) && true) = true → True)),(0,(True) ∧ dB (bif (y4.2 != (0 : Int)) then true else ((IntKind.i64.wrap ((2 : Int) * (y4.1.length : Int))) != (y5.1.length : Int))) = dB z7)] 0 (by kernel_rfl) (⟨(fun hg => trivial),(fun hg => len_ok cS_BinderyLeaf),(fun hg => trivial),(fun hg => trivial),(fun hg => len_ok cS_FoldPage),(fun hg => trivial),⟨trivial,(by subst hz1; rfl)⟩⟩) ?_
      refine T_cond z7 (by kernel_rfl) (fun hc => ?_) (fun hc => ?_)
      · have h := cond_tt hc h
        refine T_reg [] [2] [(2,dB false)] [] 1 (by kernel_rfl) (trivial) ?_
        obtain hs := Option.some.inj h; subst hs
        refine T_ret fun a w hm => then_ret (T_return (fr' := [(2,dB false)]) [2] (by kernel_rfl) [.keep [2]] (by kernel_rfl) (by kernel_rfl) (by kernel_rfl) (by show _ = _; kernel_rfl) (by exact trivial) a w hm)
      · have h := cond_ff hc h
        refine T_skip fun a w hm => then_norm (((?_ : T Try.prog e 149 _ _ _) a w hm))
        refine T_seqk ?_
        refine T_reg [(1,{ rw := some (dI (y4.1.length : Int)) })] [1,5,6,8,61,62,63] [(61,.vw (6,0)),(62,dI (y4.1.length : Int)),(63,dI (0 : Int))] [(1,True ∧ dI ((y4.1.map cS_BinderyLeaf).length : Int) = dI (y4.1.length : Int))] 1 (by kernel_rfl) (len_ok cS_BinderyLeaf) ?_
        refine T_joinEt h (fun (p : Unit) => []) (fun s h hk1 => ?_) (fun s h => ?_)
        · refine T_co [.keep [1,5,6,8,61,62,63]] ((fun (p : Int) => [(1,bx_ImposeLayout y1),(5,.box [dI y2.f0,dI y2.f1,.d (.sl 1 (y2.f2.map cU)),dI y3.f0,dI y3.f1,.d (.sl 1 (y3.f2.map cU))]),(6,oW7 y4.1),(8,oW3 y5.1),(61,.vw (6,0)),(62,dI (y4.1.length : Int)),(63,dI p)]) (0 : Int)) (by show _ = _; kernel_rfl) ?_
          refine T_block ?_
          refine T_loopF (ι := Int) (fun (p : Int) => [(1,bx_ImposeLayout y1),(5,.box [dI y2.f0,dI y2.f1,.d (.sl 1 (y2.f2.map cU)),dI y3.f0,dI y3.f1,.d (.sl 1 (y3.f2.map cU))]),(6,oW7 y4.1),(8,oW3 y5.1),(61,.vw (6,0)),(62,dI (y4.1.length : Int)),(63,dI p)]) (fun n p => law3_BinderyFoldMatchesReference_L0 F y1 y2 y3 y4 y5 n p = some s) (fun i hh => by simp [law3_BinderyFoldMatchesReference_L0] at hh) (fun n v1 h => ?_) F (0 : Int) h
          have h : law3_BinderyFoldMatchesReference_L0 F y1 y2 y3 y4 y5 (n + 1) v1 = some s := h
          rw [law3_BinderyFoldMatchesReference_L0] at h
          refine T_reg [] [1,5,6,8,61,62,63,64] [(64,dB (decide (v1 < (y4.1.length : Int))))] [] 1 (by kernel_rfl) (trivial) ?_
          refine T_seqk ?_
          refine T_cond (decide (v1 < (y4.1.length : Int))) (by kernel_rfl) (fun hc => ?_) (fun hc => ?_)
          · have h := cond_tt hc h
            refine T_skip fun a w hm => then_norm (((?_ : T Try.prog e 149 _ _ _) a w hm))
            refine T_seqk ?_
            refine T_block ?_
            obtain ⟨hp1,h⟩ := chk_ok h
            refine T_reg [(2,{ cs := cS_BinderyLeaf (y4.1.getD v1.toNat z_BinderyLeaf) })] [1,5,6,8,10,11,61,62,63] [(10,dI v1),(11,.box [dI (((y4.1.getD v1.toNat z_BinderyLeaf).f0).f0),dI (((y4.1.getD v1.toNat z_BinderyLeaf).f0).f1),.d (.sl 1 ((((y4.1.getD v1.toNat z_BinderyLeaf).f0).f2).map cU)),dI (((y4.1.getD v1.toNat z_BinderyLeaf).f1).f0),dI (((y4.1.getD v1.toNat z_BinderyLeaf).f1).f1),.d (.sl 1 ((((y4.1.getD v1.toNat z_BinderyLeaf).f1).f2).map cU))])] [(1,0 ≤ v1 ∧ v1 < (y4.1.map cS_BinderyLeaf).length),(0,(y4.1.map cS_BinderyLeaf)[v1.toNat]? = some (cS_BinderyLeaf (y4.1.getD v1.toNat z_BinderyLeaf)))] 3 (by kernel_rfl) (⟨own_idx cS_BinderyLeaf hp1,(idx_ok (d := z_BinderyLeaf) cS_BinderyLeaf hp1).2⟩) ?_
            obtain ⟨z3,hz2,h⟩ := lett_ok h
            refine T_reg [(4,{ es := some (([((y4.1.getD v1.toNat z_BinderyLeaf).f0),((y4.1.getD v1.toNat z_BinderyLeaf).f1)]).map cS_Plate) }),(5,{ rw := some (dI z3) })] [1,5,6,8,10,61,62,63,72,73,74] [(72,.own 24 3 (([((y4.1.getD v1.toNat z_BinderyLeaf).f0),((y4.1.getD v1.toNat z_BinderyLeaf).f1)]).map cS_Plate)),(73,dI z3),(74,dI (0 : Int))] [(4,(([((y4.1.getD v1.toNat z_BinderyLeaf).f0),((y4.1.getD v1.toNat z_BinderyLeaf).f1)]).map cS_Plate) = (([((y4.1.getD v1.toNat z_BinderyLeaf).f0),((y4.1.getD v1.toNat z_BinderyLeaf).f1)]).map cS_Plate)),(0,True ∧ dI ((([((y4.1.getD v1.toNat z_BinderyLeaf).f0),((y4.1.getD v1.toNat z_BinderyLeaf).f1)]).map cS_Plate).length : Int) = dI z3)] 1 (by kernel_rfl) (⟨rfl,and_trans (len_ok cS_Plate) (by subst hz2; rfl)⟩) ?_
            refine T_joinEt h (fun (p : Unit) => [(1,bx_ImposeLayout y1),(5,.box [dI y2.f0,dI y2.f1,.d (.sl 1 (y2.f2.map cU)),dI y3.f0,dI y3.f1,.d (.sl 1 (y3.f2.map cU))]),(6,oW7 y4.1),(8,oW3 y5.1),(61,.vw (6,0)),(62,dI (y4.1.length : Int)),(63,dI v1)]) (fun s h hk2 => ?_) (fun s h => ?_)
            · refine T_co [.keep [1,5,6,8,10,61,62,63,72,73,74]] ((fun (p : Int) => [(1,bx_ImposeLayout y1),(5,.box [dI y2.f0,dI y2.f1,.d (.sl 1 (y2.f2.map cU)),dI y3.f0,dI y3.f1,.d (.sl 1 (y3.f2.map cU))]),(6,oW7 y4.1),(8,oW3 y5.1),(10,dI v1),(61,.vw (6,0)),(62,dI (y4.1.length : Int)),(63,dI v1),(72,.own 24 3 (([((y4.1.getD v1.toNat z_BinderyLeaf).f0),((y4.1.getD v1.toNat z_BinderyLeaf).f1)]).map cS_Plate)),(73,dI z3),(74,dI p)]) (0 : Int)) (by show _ = _; kernel_rfl) ?_
              refine T_block ?_
              refine T_loopF (ι := Int) (fun (p : Int) => [(1,bx_ImposeLayout y1),(5,.box [dI y2.f0,dI y2.f1,.d (.sl 1 (y2.f2.map cU)),dI y3.f0,dI y3.f1,.d (.sl 1 (y3.f2.map cU))]),(6,oW7 y4.1),(8,oW3 y5.1),(10,dI v1),(61,.vw (6,0)),(62,dI (y4.1.length : Int)),(63,dI v1),(72,.own 24 3 (([((y4.1.getD v1.toNat z_BinderyLeaf).f0),((y4.1.getD v1.toNat z_BinderyLeaf).f1)]).map cS_Plate)),(73,dI z3),(74,dI p)]) (fun n p => law3_BinderyFoldMatchesReference_L2 F y1 y2 y3 y4 y5 v1 z3 n p = some s) (fun i hh => by simp [law3_BinderyFoldMatchesReference_L2] at hh) (fun n v2 h => ?_) F (0 : Int) h
              have h : law3_BinderyFoldMatchesReference_L2 F y1 y2 y3 y4 y5 v1 z3 (n + 1) v2 = some s := h
              rw [law3_BinderyFoldMatchesReference_L2] at h
              refine T_reg [] [1,5,6,8,10,61,62,63,72,73,74,75] [(75,dB (decide (v2 < z3)))] [] 1 (by kernel_rfl) (trivial) ?_
              refine T_seqk ?_
              refine T_cond (decide (v2 < z3)) (by kernel_rfl) (fun hc => ?_) (fun hc => ?_)
              · have h := cond_tt hc h
                refine T_skip fun a w hm => then_norm (((?_ : T Try.prog e 149 _ _ _) a w hm))
                refine T_seqk ?_
                refine T_block ?_
                obtain ⟨hp2,h⟩ := chk_ok h
                refine T_reg [(2,{ cs := cS_Plate (([((y4.1.getD v1.toNat z_BinderyLeaf).f0),((y4.1.getD v1.toNat z_BinderyLeaf).f1)]).getD v2.toNat z_Plate) })] [1,5,6,8,10,12,13,61,62,63,72,73,74] [(12,dI v2),(13,.box [dI ((([((y4.1.getD v1.toNat z_BinderyLeaf).f0),((y4.1.getD v1.toNat z_BinderyLeaf).f1)]).getD v2.toNat z_Plate).f0),dI ((([((y4.1.getD v1.toNat z_BinderyLeaf).f0),((y4.1.getD v1.toNat z_BinderyLeaf).f1)]).getD v2.toNat z_Plate).f1),.d (.sl 1 (((([((y4.1.getD v1.toNat z_BinderyLeaf).f0),((y4.1.getD v1.toNat z_BinderyLeaf).f1)]).getD v2.toNat z_Plate).f2).map cU))])] [(1,0 ≤ v2 ∧ v2 < (([((y4.1.getD v1.toNat z_BinderyLeaf).f0),((y4.1.getD v1.toNat z_BinderyLeaf).f1)]).map cS_Plate).length),(0,(([((y4.1.getD v1.toNat z_BinderyLeaf).f0),((y4.1.getD v1.toNat z_BinderyLeaf).f1)]).map cS_Plate)[v2.toNat]? = some (cS_Plate (([((y4.1.getD v1.toNat z_BinderyLeaf).f0),((y4.1.getD v1.toNat z_BinderyLeaf).f1)]).getD v2.toNat z_Plate)))] 3 (by kernel_rfl) (⟨own_idx cS_Plate hp2,(idx_ok (d := z_Plate) cS_Plate hp2).2⟩) ?_
                refine T_seqk ?_
                obtain ⟨z4,hz3,h⟩ := lett_ok h
                obtain ⟨z5,hz4,h⟩ := lett_ok h
                obtain ⟨z6,hz5,h⟩ := lett_ok h
                obtain ⟨y10,hy9,h⟩ := call_ok h
                refine T_reg [(1,{ rw := some (dI z4) }),(13,{ rw := some (dI z5) }),(21,{ rw := some (dB z6) }),(24,{ res := dI y10 })] [1,5,6,8,10,12,13,61,62,63,72,73,74,105] [(105,dB (bif z6 then true else (y10 != (0 : Int))))] [(1,(True) ∧ dI ((([((y4.1.getD v1.toNat z_BinderyLeaf).f0),((y4.1.getD v1.toNat z_BinderyLeaf).f1)]).getD v2.toNat z_Plate).f0) = dI z4),(10,((((z4 != (IntKind.i64.wrap ((IntKind.i64.wrap (y1.f1 + y1.f4)) + y1.f5))) == false) && true) = true → True)),(0,((((z4 != (IntKind.i64.wrap ((IntKind.i64.wrap (y1.f1 + y1.f4)) + y1.f5))) == false) && true) = true → (True) ∧ dI ((([((y4.1.getD v1.toNat z_BinderyLeaf).f0),((y4.1.getD v1.toNat z_BinderyLeaf).f1)]).getD v2.toNat z_Plate).f1) = dI z5)),(0,((((z4 != (IntKind.i64.wrap ((IntKind.i64.wrap (y1.f1 + y1.f4)) + y1.f5))) == false) && true) = true → True)),(0,((((z4 != (IntKind.i64.wrap ((IntKind.i64.wrap (y1.f1 + y1.f4)) + y1.f5))) == false) && true) = true → True)),(0,((((z4 != (IntKind.i64.wrap ((IntKind.i64.wrap (y1.f1 + y1.f4)) + y1.f5))) == false) && true) = true → True)),(0,((((z4 != (IntKind.i64.wrap ((IntKind.i64.wrap (y1.f1 + y1.f4)) + y1.f5))) == false) && true) = true → True)),(0,((((z4 != (IntKind.i64.wrap ((IntKind.i64.wrap (y1.f1 + y1.f4)) + y1.f5))) == false) && true) = true → True)),(0,((((z4 != (IntKind.i64.wrap ((IntKind.i64.wrap (y1.f1 + y1.f4)) + y1.f5))) == false) && true) = true → True)),(0,((((z4 != (IntKind.i64.wrap ((IntKind.i64.wrap (y1.f1 + y1.f4)) + y1.f5))) == false) && true) = true → True)),(0,(True) ∧ dB (bif (z4 != (IntKind.i64.wrap ((IntKind.i64.wrap (y1.f1 + y1.f4)) + y1.f5))) then true else (z5 != (IntKind.i64.wrap (y1.f2 + (IntKind.i64.wrap ((2 : Int) * y1.f3)))))) = dB z6),(1,(((z6 == false) && true) = true → True)),(0,(((z6 == false) && true) = true → ACall Try.prog 8 [.agg (cS_Plate (([((y4.1.getD v1.toNat z_BinderyLeaf).f0),((y4.1.getD v1.toNat z_BinderyLeaf).f1)]).getD v2.toNat z_Plate))] [] (dI y10) [])),(0,(((z6 == false) && true) = true → True))] 1 (by kernel_rfl) (⟨⟨trivial,(by subst hz3; rfl)⟩,(fun hg => trivial),(fun hg => ⟨trivial,(by subst hz4; rfl)⟩),(fun hg => trivial),(fun hg => trivial),(fun hg => trivial),(fun hg => trivial),(fun hg => trivial),(fun hg => trivial),(fun hg => trivial),⟨trivial,(by subst hz5; rfl)⟩,(fun hg => trivial),(fun hg => ref3_PlateError_ok (gcall_ok hg hy9)),(fun hg => trivial)⟩) ?_
                refine T_cond (bif z6 then true else (y10 != (0 : Int))) (by kernel_rfl) (fun hc => ?_) (fun hc => ?_)
                · have h := cond_tt hc h
                  refine T_reg [] [2] [(2,dB false)] [] 1 (by kernel_rfl) (trivial) ?_
                  obtain hs := Option.some.inj h; subst hs
                  have h := callE_esc hk2
                  obtain hs := Option.some.inj h; subst hs
                  have h := callE_esc hk1
                  obtain hs := Option.some.inj h; subst hs
                  refine T_ret fun a w hm => then_ret (inBlock_ret (then_ret (then_ret (inBlock_ret (then_ret (inBlock_ret (then_ret (then_ret (inBlock_ret (then_ret (then_ret (T_return (fr' := [(2,dB false)]) [2] (by kernel_rfl) [.keep [2]] (by kernel_rfl) (by kernel_rfl) (by kernel_rfl) (by show _ = _; kernel_rfl) (by exact trivial) a w hm))))))))))))
                · have h := cond_ff hc h
                  refine T_skip fun a w hm => then_norm (((?_ : T Try.prog e 149 _ _ _) a w hm))
                  obtain ⟨z2,hz6,h⟩ := lett_ok h
                  refine T_reg [(1,{ rw := some (dI z2) })] [1,5,6,8,10,12,13,61,62,63,72,73,74,107,108] [(107,dI z2),(108,dI (0 : Int))] [(1,(True) ∧ dI ((([((y4.1.getD v1.toNat z_BinderyLeaf).f0),((y4.1.getD v1.toNat z_BinderyLeaf).f1)]).getD v2.toNat z_Plate).f1) = dI z2)] 1 (by kernel_rfl) (⟨trivial,(by subst hz6; rfl)⟩) ?_
                  refine T_joinEt h (fun (p : Unit) => [(1,bx_ImposeLayout y1),(5,.box [dI y2.f0,dI y2.f1,.d (.sl 1 (y2.f2.map cU)),dI y3.f0,dI y3.f1,.d (.sl 1 (y3.f2.map cU))]),(6,oW7 y4.1),(8,oW3 y5.1),(10,dI v1),(61,.vw (6,0)),(62,dI (y4.1.length : Int)),(63,dI v1),(72,.own 24 3 (([((y4.1.getD v1.toNat z_BinderyLeaf).f0),((y4.1.getD v1.toNat z_BinderyLeaf).f1)]).map cS_Plate)),(73,dI z3),(74,dI v2)]) (fun s h hk3 => ?_) (fun s h => ?_)
                  · refine T_co [.keep [1,5,6,8,10,12,13,61,62,63,72,73,74,107,108]] ((fun (p : Int) => [(1,bx_ImposeLayout y1),(5,.box [dI y2.f0,dI y2.f1,.d (.sl 1 (y2.f2.map cU)),dI y3.f0,dI y3.f1,.d (.sl 1 (y3.f2.map cU))]),(6,oW7 y4.1),(8,oW3 y5.1),(10,dI v1),(12,dI v2),(13,.box [dI ((([((y4.1.getD v1.toNat z_BinderyLeaf).f0),((y4.1.getD v1.toNat z_BinderyLeaf).f1)]).getD v2.toNat z_Plate).f0),dI ((([((y4.1.getD v1.toNat z_BinderyLeaf).f0),((y4.1.getD v1.toNat z_BinderyLeaf).f1)]).getD v2.toNat z_Plate).f1),.d (.sl 1 (((([((y4.1.getD v1.toNat z_BinderyLeaf).f0),((y4.1.getD v1.toNat z_BinderyLeaf).f1)]).getD v2.toNat z_Plate).f2).map cU))]),(61,.vw (6,0)),(62,dI (y4.1.length : Int)),(63,dI v1),(72,.own 24 3 (([((y4.1.getD v1.toNat z_BinderyLeaf).f0),((y4.1.getD v1.toNat z_BinderyLeaf).f1)]).map cS_Plate)),(73,dI z3),(74,dI v2),(107,dI z2),(108,dI p)]) (0 : Int)) (by show _ = _; kernel_rfl) ?_
                    refine T_block ?_
                    refine T_loopF (ι := Int) (fun (p : Int) => [(1,bx_ImposeLayout y1),(5,.box [dI y2.f0,dI y2.f1,.d (.sl 1 (y2.f2.map cU)),dI y3.f0,dI y3.f1,.d (.sl 1 (y3.f2.map cU))]),(6,oW7 y4.1),(8,oW3 y5.1),(10,dI v1),(12,dI v2),(13,.box [dI ((([((y4.1.getD v1.toNat z_BinderyLeaf).f0),((y4.1.getD v1.toNat z_BinderyLeaf).f1)]).getD v2.toNat z_Plate).f0),dI ((([((y4.1.getD v1.toNat z_BinderyLeaf).f0),((y4.1.getD v1.toNat z_BinderyLeaf).f1)]).getD v2.toNat z_Plate).f1),.d (.sl 1 (((([((y4.1.getD v1.toNat z_BinderyLeaf).f0),((y4.1.getD v1.toNat z_BinderyLeaf).f1)]).getD v2.toNat z_Plate).f2).map cU))]),(61,.vw (6,0)),(62,dI (y4.1.length : Int)),(63,dI v1),(72,.own 24 3 (([((y4.1.getD v1.toNat z_BinderyLeaf).f0),((y4.1.getD v1.toNat z_BinderyLeaf).f1)]).map cS_Plate)),(73,dI z3),(74,dI v2),(107,dI z2),(108,dI p)]) (fun n p => law3_BinderyFoldMatchesReference_L4 F y1 y2 y3 y4 y5 v1 v2 z2 n p = some s) (fun i hh => by simp [law3_BinderyFoldMatchesReference_L4] at hh) (fun n v3 h => ?_) F (0 : Int) h
                    have h : law3_BinderyFoldMatchesReference_L4 F y1 y2 y3 y4 y5 v1 v2 z2 (n + 1) v3 = some s := h
                    rw [law3_BinderyFoldMatchesReference_L4] at h
                    refine T_reg [] [1,5,6,8,10,12,13,61,62,63,72,73,74,107,108,109] [(109,dB (decide (v3 < z2)))] [] 1 (by kernel_rfl) (trivial) ?_
                    refine T_seqk ?_
                    refine T_cond (decide (v3 < z2)) (by kernel_rfl) (fun hc => ?_) (fun hc => ?_)
                    · have h := cond_tt hc h
                      refine T_skip fun a w hm => then_norm (((?_ : T Try.prog e 149 _ _ _) a w hm))
                      refine T_seqk ?_
                      refine T_block ?_
                      refine T_reg [] [1,5,6,8,10,12,13,14,61,62,63,72,73,74,107,108] [(14,dI v3)] [] 2 (by kernel_rfl) (trivial) ?_
                      obtain ⟨z1,hz7,h⟩ := lett_ok h
                      refine T_reg [(1,{ rw := some (dI z1) })] [1,5,6,8,10,12,13,14,61,62,63,72,73,74,107,108,112,113] [(112,dI z1),(113,dI (0 : Int))] [(1,(True) ∧ dI ((([((y4.1.getD v1.toNat z_BinderyLeaf).f0),((y4.1.getD v1.toNat z_BinderyLeaf).f1)]).getD v2.toNat z_Plate).f0) = dI z1)] 1 (by kernel_rfl) (⟨trivial,(by subst hz7; rfl)⟩) ?_
                      refine T_joinEt h (fun (p : Unit) => [(1,bx_ImposeLayout y1),(5,.box [dI y2.f0,dI y2.f1,.d (.sl 1 (y2.f2.map cU)),dI y3.f0,dI y3.f1,.d (.sl 1 (y3.f2.map cU))]),(6,oW7 y4.1),(8,oW3 y5.1),(10,dI v1),(12,dI v2),(13,.box [dI ((([((y4.1.getD v1.toNat z_BinderyLeaf).f0),((y4.1.getD v1.toNat z_BinderyLeaf).f1)]).getD v2.toNat z_Plate).f0),dI ((([((y4.1.getD v1.toNat z_BinderyLeaf).f0),((y4.1.getD v1.toNat z_BinderyLeaf).f1)]).getD v2.toNat z_Plate).f1),.d (.sl 1 (((([((y4.1.getD v1.toNat z_BinderyLeaf).f0),((y4.1.getD v1.toNat z_BinderyLeaf).f1)]).getD v2.toNat z_Plate).f2).map cU))]),(61,.vw (6,0)),(62,dI (y4.1.length : Int)),(63,dI v1),(72,.own 24 3 (([((y4.1.getD v1.toNat z_BinderyLeaf).f0),((y4.1.getD v1.toNat z_BinderyLeaf).f1)]).map cS_Plate)),(73,dI z3),(74,dI v2),(107,dI z2),(108,dI v3)]) (fun s h hk4 => ?_) (fun s h => ?_)
                      · refine T_co [.keep [1,5,6,8,10,12,13,14,61,62,63,72,73,74,107,108,112,113]] ((fun (p : Int) => [(1,bx_ImposeLayout y1),(5,.box [dI y2.f0,dI y2.f1,.d (.sl 1 (y2.f2.map cU)),dI y3.f0,dI y3.f1,.d (.sl 1 (y3.f2.map cU))]),(6,oW7 y4.1),(8,oW3 y5.1),(10,dI v1),(12,dI v2),(13,.box [dI ((([((y4.1.getD v1.toNat z_BinderyLeaf).f0),((y4.1.getD v1.toNat z_BinderyLeaf).f1)]).getD v2.toNat z_Plate).f0),dI ((([((y4.1.getD v1.toNat z_BinderyLeaf).f0),((y4.1.getD v1.toNat z_BinderyLeaf).f1)]).getD v2.toNat z_Plate).f1),.d (.sl 1 (((([((y4.1.getD v1.toNat z_BinderyLeaf).f0),((y4.1.getD v1.toNat z_BinderyLeaf).f1)]).getD v2.toNat z_Plate).f2).map cU))]),(14,dI v3),(61,.vw (6,0)),(62,dI (y4.1.length : Int)),(63,dI v1),(72,.own 24 3 (([((y4.1.getD v1.toNat z_BinderyLeaf).f0),((y4.1.getD v1.toNat z_BinderyLeaf).f1)]).map cS_Plate)),(73,dI z3),(74,dI v2),(107,dI z2),(108,dI v3),(112,dI z1),(113,dI p)]) (0 : Int)) (by show _ = _; kernel_rfl) ?_
                        refine T_block ?_
                        refine T_loopF (ι := Int) (fun (p : Int) => [(1,bx_ImposeLayout y1),(5,.box [dI y2.f0,dI y2.f1,.d (.sl 1 (y2.f2.map cU)),dI y3.f0,dI y3.f1,.d (.sl 1 (y3.f2.map cU))]),(6,oW7 y4.1),(8,oW3 y5.1),(10,dI v1),(12,dI v2),(13,.box [dI ((([((y4.1.getD v1.toNat z_BinderyLeaf).f0),((y4.1.getD v1.toNat z_BinderyLeaf).f1)]).getD v2.toNat z_Plate).f0),dI ((([((y4.1.getD v1.toNat z_BinderyLeaf).f0),((y4.1.getD v1.toNat z_BinderyLeaf).f1)]).getD v2.toNat z_Plate).f1),.d (.sl 1 (((([((y4.1.getD v1.toNat z_BinderyLeaf).f0),((y4.1.getD v1.toNat z_BinderyLeaf).f1)]).getD v2.toNat z_Plate).f2).map cU))]),(14,dI v3),(61,.vw (6,0)),(62,dI (y4.1.length : Int)),(63,dI v1),(72,.own 24 3 (([((y4.1.getD v1.toNat z_BinderyLeaf).f0),((y4.1.getD v1.toNat z_BinderyLeaf).f1)]).map cS_Plate)),(73,dI z3),(74,dI v2),(107,dI z2),(108,dI v3),(112,dI z1),(113,dI p)]) (fun n p => law3_BinderyFoldMatchesReference_L6 F y1 y2 y3 y4 y5 v1 v2 v3 z1 n p = some s) (fun i hh => by simp [law3_BinderyFoldMatchesReference_L6] at hh) (fun n v4 h => ?_) F (0 : Int) h
                        have h : law3_BinderyFoldMatchesReference_L6 F y1 y2 y3 y4 y5 v1 v2 v3 z1 (n + 1) v4 = some s := h
                        rw [law3_BinderyFoldMatchesReference_L6] at h
                        refine T_reg [] [1,5,6,8,10,12,13,14,61,62,63,72,73,74,107,108,112,113,114] [(114,dB (decide (v4 < z1)))] [] 1 (by kernel_rfl) (trivial) ?_
                        refine T_seqk ?_
                        refine T_cond (decide (v4 < z1)) (by kernel_rfl) (fun hc => ?_) (fun hc => ?_)
                        · have h := cond_tt hc h
                          refine T_skip fun a w hm => then_norm (((?_ : T Try.prog e 149 _ _ _) a w hm))
                          refine T_seqk ?_
                          refine T_block ?_
                          refine T_reg [] [1,5,6,8,10,12,13,14,15,61,62,63,72,73,74,107,108,112,113] [(15,dI v4)] [] 2 (by kernel_rfl) (trivial) ?_
                          obtain ⟨y6,hy10,h⟩ := call_ok h
                          refine T_reg [(7,{ res := .tup [dB y6.1,dI y6.2.1,dI y6.2.2] })] [1,5,6,8,10,12,13,14,15,16,17,18,61,62,63,72,73,74,107,108,112,113] [(16,dB y6.1),(17,dI y6.2.1),(18,dI y6.2.2)] [(7,ACall Try.prog 15 [.agg (cS_ImposeLayout y1),.d (.sl 4 (y5.1.map cS_FoldPage)),dI v1,dB (v2 == (1 : Int)),dI v4,dI v3] [] (.tup [dB y6.1,dI y6.2.1,dI y6.2.2]) [])] 7 (by kernel_rfl) (ref3_Leafed_ok hy10) ?_
                          obtain ⟨y7,hy11,h⟩ := call_ok h
                          refine T_reg [(4,{ res := .d (.v (.int .u8 y7)) })] [1,5,6,8,10,12,13,14,15,16,17,18,19,61,62,63,72,73,74,107,108,112,113] [(19,.d (.v (.int .u8 y7)))] [(4,ACall Try.prog 16 [.agg (cS_Plate y2),dI y6.2.1,dI y6.2.2] [] (.d (.v (.int .u8 y7))) [])] 1 (by kernel_rfl) (ref3_Pix_ok hy11) ?_
                          refine T_joinc h (fun (p : Int) => [(1,bx_ImposeLayout y1),(5,.box [dI y2.f0,dI y2.f1,.d (.sl 1 (y2.f2.map cU)),dI y3.f0,dI y3.f1,.d (.sl 1 (y3.f2.map cU))]),(6,oW7 y4.1),(8,oW3 y5.1),(10,dI v1),(12,dI v2),(13,.box [dI ((([((y4.1.getD v1.toNat z_BinderyLeaf).f0),((y4.1.getD v1.toNat z_BinderyLeaf).f1)]).getD v2.toNat z_Plate).f0),dI ((([((y4.1.getD v1.toNat z_BinderyLeaf).f0),((y4.1.getD v1.toNat z_BinderyLeaf).f1)]).getD v2.toNat z_Plate).f1),.d (.sl 1 (((([((y4.1.getD v1.toNat z_BinderyLeaf).f0),((y4.1.getD v1.toNat z_BinderyLeaf).f1)]).getD v2.toNat z_Plate).f2).map cU))]),(14,dI v3),(15,dI v4),(19,.d (.v (.int .u8 p))),(61,.vw (6,0)),(62,dI (y4.1.length : Int)),(63,dI v1),(72,.own 24 3 (([((y4.1.getD v1.toNat z_BinderyLeaf).f0),((y4.1.getD v1.toNat z_BinderyLeaf).f1)]).map cS_Plate)),(73,dI z3),(74,dI v2),(107,dI z2),(108,dI v3),(112,dI z1),(113,dI v4)]) (fun s h => ?_) (fun v5 h => ?_)
                          · refine T_reg [] [1,5,6,8,10,12,13,14,15,17,18,19,61,62,63,72,73,74,107,108,112,113,133] [(133,dB y6.1)] [] 1 (by kernel_rfl) (trivial) ?_
                            refine T_cond y6.1 (by kernel_rfl) (fun hc => ?_) (fun hc => ?_)
                            · have h := cond_tt hc h
                              obtain ⟨y8,hy12,h⟩ := call_ok h
                              obtain hs := Option.some.inj h; subst hs
                              refine T_reg_end [(4,{ res := .d (.v (.int .u8 y8)) })] [1,5,6,8,10,12,13,14,15,19,61,62,63,72,73,74,107,108,112,113] [(19,.d (.v (.int .u8 y8)))] [(4,ACall Try.prog 16 [.agg (cS_Plate y3),dI y6.2.1,dI y6.2.2] [] (.d (.v (.int .u8 y8))) [])] 1 (by kernel_rfl) (ref3_Pix_ok hy12) fun a w hm => then_norm (hm.co (cs := [.keep [1,5,6,8,10,12,13,14,15,19,61,62,63,72,73,74,107,108,112,113]]) (by show _ = _; kernel_rfl))
                            · have h := cond_ff hc h
                              obtain hs := Option.some.inj h; subst hs
                              refine T_skip fun a w hm => then_norm (hm.co (cs := [.keep [1,5,6,8,10,12,13,14,15,19,61,62,63,72,73,74,107,108,112,113]]) (by show _ = _; kernel_rfl))
                          · skip
                            obtain ⟨y9,hy13,h⟩ := call_ok h
                            refine T_reg [(3,{ res := .d (.v (.int .u8 y9)) })] [1,5,6,8,10,12,13,14,61,62,63,72,73,74,107,108,112,113,144] [(144,dB (y9 != v5))] [(3,ACall Try.prog 16 [.agg (cS_Plate (([((y4.1.getD v1.toNat z_BinderyLeaf).f0),((y4.1.getD v1.toNat z_BinderyLeaf).f1)]).getD v2.toNat z_Plate)),dI v4,dI v3] [] (.d (.v (.int .u8 y9))) [])] 2 (by kernel_rfl) (ref3_Pix_ok hy13) ?_
                            refine T_cond (y9 != v5) (by kernel_rfl) (fun hc => ?_) (fun hc => ?_)
                            · have h := cond_tt hc h
                              refine T_reg [] [2] [(2,dB false)] [] 1 (by kernel_rfl) (trivial) ?_
                              obtain hs := Option.some.inj h; subst hs
                              have h := callE_esc hk4
                              obtain hs := Option.some.inj h; subst hs
                              have h := callE_esc hk3
                              obtain hs := Option.some.inj h; subst hs
                              have h := callE_esc hk2
                              obtain hs := Option.some.inj h; subst hs
                              have h := callE_esc hk1
                              obtain hs := Option.some.inj h; subst hs
                              refine T_ret fun a w hm => inBlock_ret (then_ret (then_ret (inBlock_ret (then_ret (inBlock_ret (then_ret (then_ret (inBlock_ret (then_ret (inBlock_ret (then_ret (then_ret (inBlock_ret (then_ret (inBlock_ret (then_ret (then_ret (inBlock_ret (then_ret (then_ret (T_return (fr' := [(2,dB false)]) [2] (by kernel_rfl) [.keep [2]] (by kernel_rfl) (by kernel_rfl) (by kernel_rfl) (by show _ = _; kernel_rfl) (by exact trivial) a w hm)))))))))))))))))))))
                            · have h := cond_ff hc h
                              refine T_skip fun a w hm => inBlock_norm (then_norm (((?_ : T Try.prog e 149 _ _ _) a w hm)))
                              refine T_reg_end [] [1,5,6,8,10,12,13,14,61,62,63,72,73,74,107,108,112,113] [(113,dI (IntKind.i64.wrap (v4 + (1 : Int))))] [] 2 (by kernel_rfl) (trivial) fun a w hm => then_norm (⟨IntKind.i64.wrap (v4 + (1 : Int)),h,hm.co (cs := [.keep [1,5,6,8,10,12,13,14,61,62,63,72,73,74,107,108,112,113]]) (by show _ = _; kernel_rfl)⟩)
                        · have h := cond_ff hc h
                          obtain hs := Option.some.inj h; subst hs
                          refine T_exit fun a w hm => then_exit (then_exit (inBlock_exit (then_norm (⟨_,rfl,hm.co (cs := [.keep [1,5,6,8,10,12,13,61,62,63,72,73,74,107,108]]) (by show _ = _; kernel_rfl)⟩))))
                      · skip
                        refine fun a w hm => inBlock_norm (then_norm (((?_ : T Try.prog e 149 _ _ _) a w hm)))
                        refine T_reg_end [] [1,5,6,8,10,12,13,61,62,63,72,73,74,107,108] [(108,dI (IntKind.i64.wrap (v3 + (1 : Int))))] [] 2 (by kernel_rfl) (trivial) fun a w hm => then_norm (⟨IntKind.i64.wrap (v3 + (1 : Int)),h,hm.co (cs := [.keep [1,5,6,8,10,12,13,61,62,63,72,73,74,107,108]]) (by show _ = _; kernel_rfl)⟩)
                    · have h := cond_ff hc h
                      obtain hs := Option.some.inj h; subst hs
                      refine T_exit fun a w hm => then_exit (then_exit (inBlock_exit (then_norm (⟨_,rfl,hm.co (cs := [.keep [1,5,6,8,10,61,62,63,72,73,74]]) (by show _ = _; kernel_rfl)⟩))))
                  · skip
                    refine fun a w hm => inBlock_norm (then_norm (((?_ : T Try.prog e 149 _ _ _) a w hm)))
                    refine T_reg_end [] [1,5,6,8,10,61,62,63,72,73,74] [(74,dI (IntKind.i64.wrap (v2 + (1 : Int))))] [] 2 (by kernel_rfl) (trivial) fun a w hm => then_norm (⟨IntKind.i64.wrap (v2 + (1 : Int)),h,hm.co (cs := [.keep [1,5,6,8,10,61,62,63,72,73,74]]) (by show _ = _; kernel_rfl)⟩)
              · have h := cond_ff hc h
                obtain hs := Option.some.inj h; subst hs
                refine T_exit fun a w hm => then_exit (then_exit (inBlock_exit (then_norm (⟨_,rfl,hm.co (cs := [.keep [1,5,6,8,61,62,63]]) (by show _ = _; kernel_rfl)⟩))))
            · skip
              refine fun a w hm => inBlock_norm (then_norm (((?_ : T Try.prog e 149 _ _ _) a w hm)))
              refine T_reg_end [] [1,5,6,8,61,62,63] [(63,dI (IntKind.i64.wrap (v1 + (1 : Int))))] [] 2 (by kernel_rfl) (trivial) fun a w hm => then_norm (⟨IntKind.i64.wrap (v1 + (1 : Int)),h,hm.co (cs := [.keep [1,5,6,8,61,62,63]]) (by show _ = _; kernel_rfl)⟩)
          · have h := cond_ff hc h
            obtain hs := Option.some.inj h; subst hs
            refine T_exit fun a w hm => then_exit (then_exit (inBlock_exit (then_norm (⟨_,rfl,hm.co (cs := [.keep []]) (by show _ = _; kernel_rfl)⟩))))
        · skip
          refine fun a w hm => then_norm (((?_ : T Try.prog e 149 _ _ _) a w hm))
          refine T_reg [] [2] [(2,dB true)] [] 1 (by kernel_rfl) (trivial) ?_
          obtain hs := Option.some.inj h; subst hs
          refine T_ret fun a w hm => T_return (fr' := [(2,dB true)]) [2] (by kernel_rfl) [.keep [2]] (by kernel_rfl) (by kernel_rfl) (by kernel_rfl) (by show _ = _; kernel_rfl) (by exact trivial) a w hm
end Go.Vm.BinG
