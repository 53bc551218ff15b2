import Derived.Test.YteidenpelbooeaaProg
import Derived.Test.YteidenpelbooeaaBinH
namespace Go.Vm.BinG
open Go.Proofs
abbrev dI (x : Int) : AV := .d (.v (.int .i64 x))
abbrev dB (x : Bool) : AV := .d (.v (.bool x))
abbrev bx_Plate (x : S_Plate) : AV := .box [.d (.v (.int .i64 x.f0)),.d (.v (.int .i64 x.f1)),.d (.sl 1 (x.f2.map cU))]
abbrev bx_FoldStep (x : S_FoldStep) : AV := .box [.d (.v (.int .i64 x.f0)),.d (.v (.int .i64 x.f1)),.d (.v (.bool x.f2))]
abbrev bx_FoldScheme (x : S_FoldScheme) : AV := .box [.d (.v (.int .i64 x.f0)),.d (.v (.int .i64 x.f1)),.d (.sl 3 (x.f2.map cS_FoldStep))]
abbrev bx_ImposeLayout (x : S_ImposeLayout) : AV := .box [.d (.v (.int .i64 x.f0.f0)),.d (.v (.int .i64 x.f0.f1)),.d (.sl 3 (x.f0.f2.map cS_FoldStep)),.d (.v (.int .i64 x.f1)),.d (.v (.int .i64 x.f2)),.d (.v (.int .i64 x.f3)),.d (.v (.int .i64 x.f4)),.d (.v (.int .i64 x.f5)),.d (.v (.int .i64 x.f6)),.d (.v (.int .i64 x.f7)),.d (.v (.int .i64 x.f8))]
abbrev bx_BinderySheet (x : S_BinderySheet) : AV := .box [.d (.v (.int .i64 x.f0.f0)),.d (.v (.int .i64 x.f0.f1)),.d (.sl 1 (x.f0.f2.map cU)),.d (.v (.int .i64 x.f1.f0)),.d (.v (.int .i64 x.f1.f1)),.d (.sl 1 (x.f1.f2.map cU))]
abbrev bx_bindery_frame (x : S_bindery_frame) : AV := .box [.d (.v (.int .i64 x.f0)),.d (.v (.int .i64 x.f1)),.d (.v (.int .i64 x.f2)),.d (.v (.int .i64 x.f3))]
abbrev bx_FoldPage (x : S_FoldPage) : AV := .box [.d (.v (.bool x.f0)),.d (.v (.int .i64 x.f1)),.d (.v (.int .i64 x.f2)),.d (.v (.int .i64 x.f3))]
abbrev bx_ImposeSheet (x : S_ImposeSheet) : AV := .box [.d (.v (.int .i64 x.f0)),.d (.v (.int .i64 x.f1)),.d (.sl 4 (x.f2.map cS_ImposePlace)),.d (.sl 4 (x.f3.map cS_ImposePlace))]
abbrev bx_impose_box (x : S_impose_box) : AV := .box [.d (.v (.int .i64 x.f0)),.d (.v (.int .i64 x.f1)),.d (.v (.int .i64 x.f2)),.d (.v (.int .i64 x.f3)),.d (.v (.int .i64 x.f4)),.d (.v (.int .i64 x.f5))]
abbrev bx_fold_sheet (x : S_fold_sheet) : AV := .box [.d (.v (.int .i64 x.f0)),.d (.v (.int .i64 x.f1)),.d (.sl 1 (x.f2.map (cL 4 cS_FoldLeaf)))]
abbrev z_BinderyLeaf : S_BinderyLeaf := S_BinderyLeaf.mk (S_Plate.mk 0 0 []) (S_Plate.mk 0 0 [])
abbrev z_FoldLeaf : S_FoldLeaf := S_FoldLeaf.mk 0 0 false false
abbrev z_ImposeSheet : S_ImposeSheet := S_ImposeSheet.mk 0 0 [] []
abbrev z_FoldPage : S_FoldPage := S_FoldPage.mk false 0 0 0
abbrev z_ImposePlace : S_ImposePlace := S_ImposePlace.mk 0 0 0 0
abbrev z_FoldStep : S_FoldStep := S_FoldStep.mk 0 0 false
abbrev z_fold_sheet : S_fold_sheet := S_fold_sheet.mk 0 0 []
abbrev z_Plate : S_Plate := S_Plate.mk 0 0 []
abbrev oW0 (x : List S_FoldStep) : AV := .own 115 3 (x.map cS_FoldStep)
abbrev oW1 (x : List (List S_FoldLeaf)) : AV := .own 104 1 (x.map (cL 4 cS_FoldLeaf))
abbrev oW2 (x : List S_FoldLeaf) : AV := .own 108 4 (x.map cS_FoldLeaf)
abbrev oW3 (x : List S_FoldPage) : AV := .own 70 4 (x.map cS_FoldPage)
abbrev oW4 (x : List S_ImposePlace) : AV := .own 79 4 (x.map cS_ImposePlace)
abbrev oW5 (x : List Int) : AV := .own 3 1 (x.map (cI .i64))
abbrev oW6 (x : List UInt8) : AV := .own 5 1 (x.map cU)
abbrev oW7 (x : List S_BinderyLeaf) : AV := .own 51 6 (x.map cS_BinderyLeaf)
set_option maxRecDepth 20000
theorem mixed : Try.prog.follows .mixedOrders = true := by kernel_rfl
theorem law3_once_ok {F : Nat}  {r : S_FoldScheme} (h : law3_once F  = some r) : ACall Try.prog 27 [] [] (.agg (cS_FoldScheme r)) [] := by
  rw [law3_once] at h
  refine ACall.intro (N := 4) Try.func27 rfl rfl rfl rfl rfl fun e => ?_
  refine T_reg [] [0] [(0,.box [dI 0,dI 0,oW0 []])] [] 1 (by kernel_rfl) (trivial) ?_
  refine T_reg [(1,{ es := some (([(S_FoldStep.mk (0 : Int) (1 : Int) true)]).map cS_FoldStep) }),(2,{ frz := [(2,0)] })] [0] [(0,.box [dI (2 : Int),dI (1 : Int),.d (.sl 3 (([(S_FoldStep.mk (0 : Int) (1 : Int) true)]).map cS_FoldStep))])] [(1,(([(S_FoldStep.mk (0 : Int) (1 : Int) true)]).map cS_FoldStep) = (([(S_FoldStep.mk (0 : Int) (1 : Int) true)]).map cS_FoldStep))] 2 (by kernel_rfl) (rfl) ?_
  obtain hs := Option.some.inj h; subst hs
  refine T_ret fun a w hm => T_returnC (fr' := [(0,.box [dI (2 : Int),dI (1 : Int),.d (.sl 3 (([(S_FoldStep.mk (0 : Int) (1 : Int) true)]).map cS_FoldStep))])]) (ts := [4]) (N' := 5) (fr2 := [(4,.agg (cS_FoldScheme (S_FoldScheme.mk (2 : Int) (1 : Int) ([(S_FoldStep.mk (0 : Int) (1 : Int) true)]))))] ++ [(0,.box [dI (2 : Int),dI (1 : Int),.d (.sl 3 (([(S_FoldStep.mk (0 : Int) (1 : Int) true)]).map cS_FoldStep))])]) [.keep [0]] (by kernel_rfl) (by kernel_rfl) (by kernel_rfl) (by kernel_rfl) (by show _ = _; kernel_rfl) (by exact trivial) a w hm
theorem fold_flat_ok {F : Nat} {a0 : S_FoldScheme} {r : S_fold_sheet} (h : fold_flat F a0 = some r) : ACall Try.prog 62 [.agg (cS_FoldScheme a0)] [] (.agg (cS_fold_sheet r)) [] := by
  rw [fold_flat] at h
  refine ACall.intro (N := 33) Try.func62 rfl rfl rfl rfl rfl fun e => ?_
  refine T_reg [] [1,2] [(1,bx_FoldScheme a0),(2,.box [dI 0,dI 0,oW1 []])] [] 2 (by kernel_rfl) (trivial) ?_
  refine T_region [(4,{ take := [0] })] [1,2,3] [.nilc 3 2 104 1,.keep [1,2,3]] [(1,bx_FoldScheme a0),(2,.box [dI 0,dI 0,oW1 []]),(3,.box [dI a0.f0,dI a0.f1,oW1 []])] [] 7 (by kernel_rfl) (trivial) ?_
  refine T_seqk ?_
  refine T_reg [] [1,2,3,12,13] [(12,dI a0.f1),(13,dI (0 : Int))] [] 3 (by kernel_rfl) (trivial) ?_
  refine T_joinct h (fun (p : (List (List S_FoldLeaf))) => [(2,.box [dI 0,dI 0,oW1 []]),(3,.box [dI a0.f0,dI a0.f1,oW1 p])]) (fun s h => ?_) (fun v6 h => ?_)
  · refine T_co [.keep [1,2,3,12,13]] ((fun (p : (List (List S_FoldLeaf)) × Int) => [(1,bx_FoldScheme a0),(2,.box [dI 0,dI 0,oW1 []]),(3,.box [dI a0.f0,dI a0.f1,oW1 p.1]),(12,dI a0.f1),(13,dI p.2)]) ([],(0 : Int))) (by show _ = _; kernel_rfl) ?_
    refine T_block ?_
    refine T_loopF (ι := (List (List S_FoldLeaf)) × Int) (fun (p : (List (List S_FoldLeaf)) × Int) => [(1,bx_FoldScheme a0),(2,.box [dI 0,dI 0,oW1 []]),(3,.box [dI a0.f0,dI a0.f1,oW1 p.1]),(12,dI a0.f1),(13,dI p.2)]) (fun n p => fold_flat_L0 F a0 n p.1 p.2 = some s) (fun i hh => by simp [fold_flat_L0] at hh) (fun n p h => ?_) F ([],(0 : Int)) h
    obtain ⟨v4,v1⟩ := p
    have h : fold_flat_L0 F a0 (n + 1) v4 v1 = some s := h
    rw [fold_flat_L0] at h
    refine T_reg [] [1,2,3,12,13,14] [(14,dB (decide (v1 < a0.f1)))] [] 1 (by kernel_rfl) (trivial) ?_
    refine T_seqk ?_
    refine T_cond (decide (v1 < a0.f1)) (by kernel_rfl) (fun hc => ?_) (fun hc => ?_)
    · have h := cond_tt hc h
      refine T_skip fun a w hm => then_norm (((?_ : T Try.prog e 33 _ _ _) a w hm))
      refine T_seqk ?_
      refine T_block ?_
      refine T_reg [] [1,2,3,4,12,13] [(4,dI v1)] [] 2 (by kernel_rfl) (trivial) ?_
      refine T_reg [] [1,2,3,4,12,13,17,18] [(17,dI a0.f0),(18,dI (0 : Int))] [] 3 (by kernel_rfl) (trivial) ?_
      refine T_joinct h (fun (p : (List (List S_FoldLeaf))) => [(1,bx_FoldScheme a0),(2,.box [dI 0,dI 0,oW1 []]),(3,.box [dI a0.f0,dI a0.f1,oW1 p]),(12,dI a0.f1),(13,dI v1)]) (fun s h => ?_) (fun v5 h => ?_)
      · refine T_co [.keep [1,2,3,4,12,13,17,18]] ((fun (p : (List (List S_FoldLeaf)) × Int) => [(1,bx_FoldScheme a0),(2,.box [dI 0,dI 0,oW1 []]),(3,.box [dI a0.f0,dI a0.f1,oW1 p.1]),(4,dI v1),(12,dI a0.f1),(13,dI v1),(17,dI a0.f0),(18,dI p.2)]) (v4,(0 : Int))) (by show _ = _; kernel_rfl) ?_
        refine T_block ?_
        refine T_loopF (ι := (List (List S_FoldLeaf)) × Int) (fun (p : (List (List S_FoldLeaf)) × Int) => [(1,bx_FoldScheme a0),(2,.box [dI 0,dI 0,oW1 []]),(3,.box [dI a0.f0,dI a0.f1,oW1 p.1]),(4,dI v1),(12,dI a0.f1),(13,dI v1),(17,dI a0.f0),(18,dI p.2)]) (fun n p => fold_flat_L2 F a0 v1 n p.1 p.2 = some s) (fun i hh => by simp [fold_flat_L2] at hh) (fun n p h => ?_) F (v4,(0 : Int)) h
        obtain ⟨v2,v3⟩ := p
        have h : fold_flat_L2 F a0 v1 (n + 1) v2 v3 = some s := h
        rw [fold_flat_L2] at h
        refine T_reg [] [1,2,3,4,12,13,17,18,19] [(19,dB (decide (v3 < a0.f0)))] [] 1 (by kernel_rfl) (trivial) ?_
        refine T_seqk ?_
        refine T_cond (decide (v3 < a0.f0)) (by kernel_rfl) (fun hc => ?_) (fun hc => ?_)
        · have h := cond_tt hc h
          refine T_skip fun a w hm => then_norm (((?_ : T Try.prog e 33 _ _ _) a w hm))
          refine T_seqk ?_
          refine T_block ?_
          refine T_reg [] [1,2,3,4,5,12,13,17,18] [(5,dI v3)] [] 2 (by kernel_rfl) (trivial) ?_
          obtain ⟨hp1,h⟩ := chk_ok h
          refine T_reg_end [(5,{ es := some (([(S_FoldLeaf.mk v3 v1 false false)]).map cS_FoldLeaf) }),(6,{ frz := [(26,0)],es := some (([[(S_FoldLeaf.mk v3 v1 false false)]]).map (cL 4 cS_FoldLeaf)) }),(7,{ es := some ((v2 ++ ([[(S_FoldLeaf.mk v3 v1 false false)]])).map (cL 4 cS_FoldLeaf)) })] [1,2,3,4,12,13,17,18] [(3,.box [dI a0.f0,dI a0.f1,.own 104 1 ((v2 ++ ([[(S_FoldLeaf.mk v3 v1 false false)]])).map (cL 4 cS_FoldLeaf))])] [(5,(([(S_FoldLeaf.mk v3 v1 false false)]).map cS_FoldLeaf) = (([(S_FoldLeaf.mk v3 v1 false false)]).map cS_FoldLeaf)),(0,(([[(S_FoldLeaf.mk v3 v1 false false)]]).map (cL 4 cS_FoldLeaf)) = (([[(S_FoldLeaf.mk v3 v1 false false)]]).map (cL 4 cS_FoldLeaf))),(0,(v2.map (cL 4 cS_FoldLeaf)).length + (([[(S_FoldLeaf.mk v3 v1 false false)]]).map (cL 4 cS_FoldLeaf)).length ≤ 4294967296 ∧ (v2.map (cL 4 cS_FoldLeaf)) ++ (([[(S_FoldLeaf.mk v3 v1 false false)]]).map (cL 4 cS_FoldLeaf)) = ((v2 ++ ([[(S_FoldLeaf.mk v3 v1 false false)]])).map (cL 4 cS_FoldLeaf)))] 2 (by kernel_rfl) (⟨rfl,rfl,app_ok (cL 4 cS_FoldLeaf) hp1⟩) fun a w hm => inBlock_norm (then_norm (((?_ : T Try.prog e 33 _ _ _) a w hm)))
          refine T_reg_end [] [1,2,3,4,12,13,17,18] [(18,dI (IntKind.i64.wrap (v3 + (1 : Int))))] [] 2 (by kernel_rfl) (trivial) fun a w hm => then_norm (⟨((v2 ++ ([[(S_FoldLeaf.mk v3 v1 false false)]])),IntKind.i64.wrap (v3 + (1 : Int))),h,hm.co (cs := [.keep [1,2,3,4,12,13,17,18]]) (by show _ = _; kernel_rfl)⟩)
        · have h := cond_ff hc h
          obtain hs := Option.some.inj h; subst hs
          refine T_exit fun a w hm => then_exit (then_exit (inBlock_exit (then_norm (hm.co (cs := [.keep [1,2,3,12,13]]) (by show _ = _; kernel_rfl)))))
      · skip
        refine fun a w hm => inBlock_norm (then_norm (((?_ : T Try.prog e 33 _ _ _) a w hm)))
        refine T_reg_end [] [1,2,3,12,13] [(13,dI (IntKind.i64.wrap (v1 + (1 : Int))))] [] 2 (by kernel_rfl) (trivial) fun a w hm => then_norm (⟨(v5,IntKind.i64.wrap (v1 + (1 : Int))),h,hm.co (cs := [.keep [1,2,3,12,13]]) (by show _ = _; kernel_rfl)⟩)
    · have h := cond_ff hc h
      obtain hs := Option.some.inj h; subst hs
      refine T_exit fun a w hm => then_exit (then_exit (inBlock_exit (then_norm (hm.co (cs := [.keep [2,3]]) (by show _ = _; kernel_rfl)))))
  · skip
    refine fun a w hm => then_norm (((?_ : T Try.prog e 33 _ _ _) a w hm))
    refine T_reg [(0,{ frz := [(3,3)] })] [2] [(2,.box [dI a0.f0,dI a0.f1,.d (.sl 1 (v6.map (cL 4 cS_FoldLeaf)))])] [] 2 (by kernel_rfl) (trivial) ?_
    obtain hs := Option.some.inj h; subst hs
    refine T_ret fun a w hm => T_returnC (fr' := [(2,.box [dI a0.f0,dI a0.f1,.d (.sl 1 (v6.map (cL 4 cS_FoldLeaf)))])]) (ts := [33]) (N' := 34) (fr2 := [(33,.agg (cS_fold_sheet (S_fold_sheet.mk a0.f0 a0.f1 v6)))] ++ [(2,.box [dI a0.f0,dI a0.f1,.d (.sl 1 (v6.map (cL 4 cS_FoldLeaf)))])]) [.keep [2]] (by kernel_rfl) (by kernel_rfl) (by kernel_rfl) (by kernel_rfl) (by show _ = _; kernel_rfl) (by exact trivial) a w hm
theorem fold_across_ok {F : Nat} {a0 : S_FoldStep} {r : Bool} (h : fold_across F a0 = some r) : ACall Try.prog 67 [.agg (cS_FoldStep a0)] [] (.d (.v (.bool r))) [] := by
  rw [fold_across] at h
  refine ACall.intro (N := 11) Try.func67 rfl rfl rfl rfl rfl fun e => ?_
  refine T_reg [] [1] [(1,bx_FoldStep a0)] [] 2 (by kernel_rfl) (trivial) ?_
  refine T_reg [] [2] [(2,dB (bif (a0.f0 == (0 : Int)) then true else (a0.f0 == (1 : Int))))] [(4,((((a0.f0 == (0 : Int)) == false) && true) = true → True)),(0,((((a0.f0 == (0 : Int)) == false) && true) = true → True)),(0,((((a0.f0 == (0 : Int)) == false) && true) = true → True))] 2 (by kernel_rfl) (⟨(fun hg => trivial),(fun hg => trivial),(fun hg => trivial)⟩) ?_
  obtain hs := Option.some.inj h; subst hs
  refine T_ret fun a w hm => T_return (fr' := [(2,dB (bif (a0.f0 == (0 : Int)) then true else (a0.f0 == (1 : Int))))]) [2] (by kernel_rfl) [.keep [2]] (by kernel_rfl) (by kernel_rfl) (by kernel_rfl) (by show _ = _; kernel_rfl) (by exact trivial) a w hm
theorem fold_sheet_extent_ok {F : Nat} {a0 : S_fold_sheet} {a1 : S_FoldStep} {r : Int} (h : fold_sheet_extent F a0 a1 = some r) : ACall Try.prog 63 [.agg (cS_fold_sheet a0),.agg (cS_FoldStep a1)] [] (.d (.v (.int .i64 r))) [] := by
  rw [fold_sheet_extent] at h
  refine ACall.intro (N := 11) Try.func63 rfl rfl rfl rfl rfl fun e => ?_
  refine T_reg [] [2,3] [(2,bx_fold_sheet a0),(3,bx_FoldStep a1)] [] 3 (by kernel_rfl) (trivial) ?_
  refine T_seqk ?_
  obtain ⟨y1,hy1,h⟩ := call_ok h
  refine T_reg [(1,{ res := dB y1 })] [2,6] [(6,dB y1)] [(1,ACall Try.prog 67 [.agg (cS_FoldStep a1)] [] (dB y1) [])] 0 (by kernel_rfl) (fold_across_ok hy1) ?_
  refine T_cond y1 (by kernel_rfl) (fun hc => ?_) (fun hc => ?_)
  · have h := cond_tt hc h
    refine T_reg [] [4] [(4,dI a0.f0)] [] 3 (by kernel_rfl) (trivial) ?_
    obtain hs := Option.some.inj h; subst hs
    refine T_ret fun a w hm => then_ret (T_return (fr' := [(4,dI a0.f0)]) [4] (by kernel_rfl) [.keep [4]] (by kernel_rfl) (by kernel_rfl) (by kernel_rfl) (by show _ = _; kernel_rfl) (by exact trivial) a w hm)
  · have h := cond_ff hc h
    refine T_skip fun a w hm => then_norm (((?_ : T Try.prog e 11 _ _ _) a w hm))
    refine T_reg [] [4] [(4,dI a0.f1)] [] 3 (by kernel_rfl) (trivial) ?_
    obtain hs := Option.some.inj h; subst hs
    refine T_ret fun a w hm => T_return (fr' := [(4,dI a0.f1)]) [4] (by kernel_rfl) [.keep [4]] (by kernel_rfl) (by kernel_rfl) (by kernel_rfl) (by show _ = _; kernel_rfl) (by exact trivial) a w hm
theorem fold_sheet_pile_ok {F : Nat} {a0 : S_fold_sheet} {a1 : Int} {a2 : Int} {r : (List S_FoldLeaf)} (h : fold_sheet_pile F a0 a1 a2 = some r) : ACall Try.prog 68 [.agg (cS_fold_sheet a0),.d (.v (.int .i64 a1)),.d (.v (.int .i64 a2))] [] (.d (.sl 4 (r.map cS_FoldLeaf))) [] := by
  rw [fold_sheet_pile] at h
  refine ACall.intro (N := 35) Try.func68 rfl rfl rfl rfl rfl fun e => ?_
  refine T_reg [] [1,2,3] [(3,bx_fold_sheet a0)] [] 2 (by kernel_rfl) (trivial) ?_
  refine T_seqk ?_
  obtain ⟨z1,hz1,h⟩ := lett_ok h
  refine T_reg [(11,{ rw := some (dB z1) })] [1,2,3,24] [(24,dB (bif z1 then true else (decide (a2 ≥ a0.f1))))] [(3,((((decide (a1 < (0 : Int))) == false) && true) = true → True)),(0,((((decide (a1 < (0 : Int))) == false) && true) = true → True)),(2,((((bif (decide (a1 < (0 : Int))) then true else (decide (a2 < (0 : Int)))) == false) && true) = true → True)),(0,((((bif (decide (a1 < (0 : Int))) then true else (decide (a2 < (0 : Int)))) == false) && true) = true → True)),(0,((((bif (decide (a1 < (0 : Int))) then true else (decide (a2 < (0 : Int)))) == false) && true) = true → True)),(0,((((bif (decide (a1 < (0 : Int))) then true else (decide (a2 < (0 : Int)))) == false) && true) = true → True)),(0,(True) ∧ dB (bif (bif (decide (a1 < (0 : Int))) then true else (decide (a2 < (0 : Int)))) then true else (decide (a1 ≥ a0.f0))) = dB z1),(1,(((z1 == false) && true) = true → True)),(0,(((z1 == false) && true) = true → True)),(0,(((z1 == false) && true) = true → True)),(0,(((z1 == false) && true) = true → True))] 1 (by kernel_rfl) (⟨(fun hg => trivial),(fun hg => trivial),(fun hg => trivial),(fun hg => trivial),(fun hg => trivial),(fun hg => trivial),⟨trivial,(by subst hz1; rfl)⟩,(fun hg => trivial),(fun hg => trivial),(fun hg => trivial),(fun hg => trivial)⟩) ?_
  refine T_cond (bif z1 then true else (decide (a2 ≥ a0.f1))) (by kernel_rfl) (fun hc => ?_) (fun hc => ?_)
  · have h := cond_tt hc h
    refine T_reg [] [6] [(6,oW2 [])] [] 1 (by kernel_rfl) (trivial) ?_
    obtain hs := Option.some.inj h; subst hs
    refine T_ret fun a w hm => then_ret (T_return (fr' := [(6,.d (.sl 4 ([].map cS_FoldLeaf)))]) [6] (by kernel_rfl) [.thaw 6,.keep [6]] (by kernel_rfl) (by kernel_rfl) (by kernel_rfl) (by show _ = _; kernel_rfl) (by exact trivial) a w hm)
  · have h := cond_ff hc h
    refine T_skip fun a w hm => then_norm (((?_ : T Try.prog e 35 _ _ _) a w hm))
    obtain ⟨hp1,h⟩ := chk_ok h
    refine T_reg [(8,{ cs := (cL 4 cS_FoldLeaf) (a0.f2.getD (IntKind.i64.wrap ((IntKind.i64.wrap (a2 * a0.f0)) + a1)).toNat []) })] [6] [(6,.d (.sl 4 ((a0.f2.getD (IntKind.i64.wrap ((IntKind.i64.wrap (a2 * a0.f0)) + a1)).toNat []).map cS_FoldLeaf)))] [(8,0 ≤ (IntKind.i64.wrap ((IntKind.i64.wrap (a2 * a0.f0)) + a1)) ∧ (a0.f2.map (cL 4 cS_FoldLeaf))[(IntKind.i64.wrap ((IntKind.i64.wrap (a2 * a0.f0)) + a1)).toNat]? = some ((cL 4 cS_FoldLeaf) (a0.f2.getD (IntKind.i64.wrap ((IntKind.i64.wrap (a2 * a0.f0)) + a1)).toNat [])))] 2 (by kernel_rfl) (idx_ok (d := []) (cL 4 cS_FoldLeaf) hp1) ?_
    obtain hs := Option.some.inj h; subst hs
    refine T_ret fun a w hm => T_return (fr' := [(6,.d (.sl 4 ((a0.f2.getD (IntKind.i64.wrap ((IntKind.i64.wrap (a2 * a0.f0)) + a1)).toNat []).map cS_FoldLeaf)))]) [6] (by kernel_rfl) [.keep [6]] (by kernel_rfl) (by kernel_rfl) (by kernel_rfl) (by show _ = _; kernel_rfl) (by exact trivial) a w hm
theorem slices_Grow_FoldLeaf_ok {F : Nat} {a0 : Int} {r : (List S_FoldLeaf)} (h : slices_Grow_FoldLeaf F a0 = some r) : ACall Try.prog 72 [.d (.v (.slice none 0 0)),.d (.v (.int .i64 a0))] [] (.own 108 4 (r.map cS_FoldLeaf)) [] := by
  rw [slices_Grow_FoldLeaf] at h
  refine ACall.intro (N := 27) Try.func72 rfl rfl rfl rfl rfl fun e => ?_
  refine T_reg [] [0,1] [] [] 1 (by kernel_rfl) (trivial) ?_
  refine T_seqk ?_
  refine T_reg [] [0,1,6] [(6,dB (decide (a0 < (0 : Int))))] [] 2 (by kernel_rfl) (trivial) ?_
  refine T_cond (decide (a0 < (0 : Int))) (by kernel_rfl) (fun hc => ?_) (fun hc => ?_)
  · have h := cond_tt hc h
    cases h
  · have h := cond_ff hc h
    refine T_skip fun a w hm => then_norm (((?_ : T Try.prog e 27 _ _ _) a w hm))
    refine T_joinc h (fun (p : (List S_FoldLeaf)) => [(0,oW2 p)]) (fun s h => ?_) (fun v1 h => ?_)
    · refine T_reg [] [0,1] [(1,dI (IntKind.i64.wrap (a0 - (IntKind.i64.wrap ((0 : Int) - (([] : List Int).length : Int))))))] [] 8 (by kernel_rfl) (trivial) ?_
      obtain ⟨z1,hz1,h⟩ := lett_ok h
      refine T_reg [(1,{ rw := some (dB z1) })] [0,1,16] [(16,dB z1)] [(1,(True) ∧ dB (decide ((IntKind.i64.wrap (a0 - (IntKind.i64.wrap ((0 : Int) - (([] : List Int).length : Int))))) > (0 : Int))) = dB z1)] 0 (by kernel_rfl) (⟨trivial,(by subst hz1; rfl)⟩) ?_
      refine T_cond z1 (by kernel_rfl) (fun hc => ?_) (fun hc => ?_)
      · have h := cond_tt hc h
        obtain ⟨hp1,h⟩ := chk_ok h
        obtain ⟨hp2,h⟩ := chk_ok h
        obtain ⟨l1,hl1,h⟩ := lett_ok h
        obtain ⟨hp3,h⟩ := chk_ok h
        obtain hs := Option.some.inj h; subst hs
        refine T_reg_end [(5,{ es := some (l1.map cS_FoldLeaf) }),(8,{ take := [0],es := some ((l1.take (([] : List Int).length : Int).toNat).map cS_FoldLeaf) })] [0] [(0,.own 108 4 ((l1.take (([] : List Int).length : Int).toNat).map cS_FoldLeaf))] [(3,0 ≤ (0 : Int) ∧ (0 : Int) ≤ (0 : Int) ∧ (0 : Int) ≤ 0),(1,(0 < (IntKind.i64.wrap (a0 - (IntKind.i64.wrap ((0 : Int) - (([] : List Int).length : Int))))) ∧ (IntKind.i64.wrap (a0 - (IntKind.i64.wrap ((0 : Int) - (([] : List Int).length : Int))))) ≤ 4294967296) ∧ List.replicate (IntKind.i64.wrap (a0 - (IntKind.i64.wrap ((0 : Int) - (([] : List Int).length : Int))))).toNat (cS_FoldLeaf z_FoldLeaf) = (l1.map cS_FoldLeaf)),(2,(0 ≤ (([] : List Int).length : Int) ∧ (([] : List Int).length : Int) ≤ ((l1.map cS_FoldLeaf).length : Int)) ∧ (l1.map cS_FoldLeaf).take (([] : List Int).length : Int).toNat = ((l1.take (([] : List Int).length : Int).toNat).map cS_FoldLeaf))] 1 (by kernel_rfl) (⟨hp1,and_trans (⟨hp2,repl_ok cS_FoldLeaf rfl⟩) (by subst hl1; rfl),take_ok cS_FoldLeaf hp3⟩) fun a w hm => then_norm (hm.co (cs := [.keep [0]]) (by show _ = _; kernel_rfl))
      · have h := cond_ff hc h
        obtain hs := Option.some.inj h; subst hs
        refine T_skip fun a w hm => then_norm (hm.co (cs := [.nil 0 108 4,.keep [0]]) (by show _ = _; kernel_rfl))
    · skip
      refine T_reg [] [0,4] [(4,.vw (0,0))] [] 2 (by kernel_rfl) (trivial) ?_
      obtain hs := Option.some.inj h; subst hs
      refine T_ret fun a w hm => T_return (fr' := [(4,oW2 v1)]) [4] (by kernel_rfl) [.claim 4,.keep [4]] (by kernel_rfl) (by kernel_rfl) (by kernel_rfl) (by show _ = _; kernel_rfl) (by exact trivial) a w hm
theorem slices_Concat_FoldLeaf_ok {F : Nat} {a0 : List (List S_FoldLeaf)} {r : (List S_FoldLeaf)} (h : slices_Concat_FoldLeaf F a0 = some r) : ACall Try.prog 70 [.d (.sl 1 (a0.map (cL 4 cS_FoldLeaf)))] [] (.own 108 4 (r.map cS_FoldLeaf)) [] := by
  rw [slices_Concat_FoldLeaf] at h
  refine ACall.intro (N := 36) Try.func70 rfl rfl rfl rfl rfl fun e => ?_
  refine T_reg [] [0] [] [] 1 (by kernel_rfl) (trivial) ?_
  refine T_reg [] [0,3] [(3,dI (0 : Int))] [] 1 (by kernel_rfl) (trivial) ?_
  refine T_seqk ?_
  refine T_reg [(1,{ rw := some (dI (a0.length : Int)) })] [0,3,9,10,11] [(9,.d (.sl 1 (a0.map (cL 4 cS_FoldLeaf)))),(10,dI (a0.length : Int)),(11,dI (0 : Int))] [(1,True ∧ dI ((a0.map (cL 4 cS_FoldLeaf)).length : Int) = dI (a0.length : Int))] 1 (by kernel_rfl) (len_ok (cL 4 cS_FoldLeaf)) ?_
  refine T_joinct h (fun (p : Int) => [(0,.d (.sl 1 (a0.map (cL 4 cS_FoldLeaf)))),(3,dI p)]) (fun s h => ?_) (fun v5 h => ?_)
  · refine T_co [.keep [0,3,9,10,11]] ((fun (p : Int × Int) => [(0,.d (.sl 1 (a0.map (cL 4 cS_FoldLeaf)))),(3,dI p.1),(9,.d (.sl 1 (a0.map (cL 4 cS_FoldLeaf)))),(10,dI (a0.length : Int)),(11,dI p.2)]) ((0 : Int),(0 : Int))) (by show _ = _; kernel_rfl) ?_
    refine T_block ?_
    refine T_loopF (ι := Int × Int) (fun (p : Int × Int) => [(0,.d (.sl 1 (a0.map (cL 4 cS_FoldLeaf)))),(3,dI p.1),(9,.d (.sl 1 (a0.map (cL 4 cS_FoldLeaf)))),(10,dI (a0.length : Int)),(11,dI p.2)]) (fun n p => slices_Concat_FoldLeaf_L0 F a0 n p.1 p.2 = some s) (fun i hh => by simp [slices_Concat_FoldLeaf_L0] at hh) (fun n p h => ?_) F ((0 : Int),(0 : Int)) h
    obtain ⟨v1,v2⟩ := p
    have h : slices_Concat_FoldLeaf_L0 F a0 (n + 1) v1 v2 = some s := h
    rw [slices_Concat_FoldLeaf_L0] at h
    refine T_reg [] [0,3,9,10,11,12] [(12,dB (decide (v2 < (a0.length : Int))))] [] 1 (by kernel_rfl) (trivial) ?_
    refine T_seqk ?_
    refine T_cond (decide (v2 < (a0.length : Int))) (by kernel_rfl) (fun hc => ?_) (fun hc => ?_)
    · have h := cond_tt hc h
      refine T_skip fun a w hm => then_norm (((?_ : T Try.prog e 36 _ _ _) a w hm))
      refine T_seqk ?_
      refine T_block ?_
      obtain ⟨hp1,h⟩ := chk_ok h
      refine T_reg [(0,{ cs := (cL 4 cS_FoldLeaf) (a0.getD v2.toNat []) })] [0,3,5,9,10,11] [(5,.d (.sl 4 ((a0.getD v2.toNat []).map cS_FoldLeaf)))] [(0,0 ≤ v2 ∧ (a0.map (cL 4 cS_FoldLeaf))[v2.toNat]? = some ((cL 4 cS_FoldLeaf) (a0.getD v2.toNat [])))] 2 (by kernel_rfl) (idx_ok (d := []) (cL 4 cS_FoldLeaf) hp1) ?_
      refine T_reg [(2,{ rw := some (dI ((a0.getD v2.toNat []).length : Int)) })] [0,3,9,10,11] [(3,dI (IntKind.i64.wrap (v1 + ((a0.getD v2.toNat []).length : Int))))] [(2,True ∧ dI (((a0.getD v2.toNat []).map cS_FoldLeaf).length : Int) = dI ((a0.getD v2.toNat []).length : Int))] 2 (by kernel_rfl) (len_ok cS_FoldLeaf) ?_
      refine T_reg [] [0,3,9,10,11,20] [(20,dB (decide ((IntKind.i64.wrap (v1 + ((a0.getD v2.toNat []).length : Int))) < (0 : Int))))] [] 2 (by kernel_rfl) (trivial) ?_
      refine T_cond (decide ((IntKind.i64.wrap (v1 + ((a0.getD v2.toNat []).length : Int))) < (0 : Int))) (by kernel_rfl) (fun hc => ?_) (fun hc => ?_)
      · have h := cond_tt hc h
        cases h
      · have h := cond_ff hc h
        refine T_skip fun a w hm => inBlock_norm (then_norm (((?_ : T Try.prog e 36 _ _ _) a w hm)))
        refine T_reg_end [] [0,3,9,10,11] [(11,dI (IntKind.i64.wrap (v2 + (1 : Int))))] [] 2 (by kernel_rfl) (trivial) fun a w hm => then_norm (⟨(IntKind.i64.wrap (v1 + ((a0.getD v2.toNat []).length : Int)),IntKind.i64.wrap (v2 + (1 : Int))),h,hm.co (cs := [.keep [0,3,9,10,11]]) (by show _ = _; kernel_rfl)⟩)
    · have h := cond_ff hc h
      obtain hs := Option.some.inj h; subst hs
      refine T_exit fun a w hm => then_exit (then_exit (inBlock_exit (then_norm (hm.co (cs := [.keep [0,3]]) (by show _ = _; kernel_rfl)))))
  · skip
    refine fun a w hm => then_norm (((?_ : T Try.prog e 36 _ _ _) a w hm))
    obtain ⟨y1,hy1,h⟩ := call_ok h
    refine T_reg [(1,{ res := oW2 y1 })] [0,6] [(6,oW2 y1)] [(1,ACall Try.prog 72 [.d (.v (.slice none 0 0)),dI v5] [] (oW2 y1) [])] 1 (by kernel_rfl) (slices_Grow_FoldLeaf_ok hy1) ?_
    refine T_seqk ?_
    refine T_reg [(1,{ rw := some (dI (a0.length : Int)) })] [6,25,26,27] [(25,.d (.sl 1 (a0.map (cL 4 cS_FoldLeaf)))),(26,dI (a0.length : Int)),(27,dI (0 : Int))] [(1,True ∧ dI ((a0.map (cL 4 cS_FoldLeaf)).length : Int) = dI (a0.length : Int))] 1 (by kernel_rfl) (len_ok (cL 4 cS_FoldLeaf)) ?_
    refine T_joinct h (fun (p : (List S_FoldLeaf)) => [(6,oW2 p)]) (fun s h => ?_) (fun v6 h => ?_)
    · refine T_co [.keep [6,25,26,27]] ((fun (p : (List S_FoldLeaf) × Int) => [(6,oW2 p.1),(25,.d (.sl 1 (a0.map (cL 4 cS_FoldLeaf)))),(26,dI (a0.length : Int)),(27,dI p.2)]) (y1,(0 : Int))) (by show _ = _; kernel_rfl) ?_
      refine T_block ?_
      refine T_loopF (ι := (List S_FoldLeaf) × Int) (fun (p : (List S_FoldLeaf) × Int) => [(6,oW2 p.1),(25,.d (.sl 1 (a0.map (cL 4 cS_FoldLeaf)))),(26,dI (a0.length : Int)),(27,dI p.2)]) (fun n p => slices_Concat_FoldLeaf_L2 F a0 n p.1 p.2 = some s) (fun i hh => by simp [slices_Concat_FoldLeaf_L2] at hh) (fun n p h => ?_) F (y1,(0 : Int)) h
      obtain ⟨v3,v4⟩ := p
      have h : slices_Concat_FoldLeaf_L2 F a0 (n + 1) v3 v4 = some s := h
      rw [slices_Concat_FoldLeaf_L2] at h
      refine T_reg [] [6,25,26,27,28] [(28,dB (decide (v4 < (a0.length : Int))))] [] 1 (by kernel_rfl) (trivial) ?_
      refine T_seqk ?_
      refine T_cond (decide (v4 < (a0.length : Int))) (by kernel_rfl) (fun hc => ?_) (fun hc => ?_)
      · have h := cond_tt hc h
        refine T_skip fun a w hm => then_norm (((?_ : T Try.prog e 36 _ _ _) a w hm))
        refine T_seqk ?_
        refine T_block ?_
        obtain ⟨hp2,h⟩ := chk_ok h
        refine T_reg [(0,{ cs := (cL 4 cS_FoldLeaf) (a0.getD v4.toNat []) })] [6,8,25,26,27] [(8,.d (.sl 4 ((a0.getD v4.toNat []).map cS_FoldLeaf)))] [(0,0 ≤ v4 ∧ (a0.map (cL 4 cS_FoldLeaf))[v4.toNat]? = some ((cL 4 cS_FoldLeaf) (a0.getD v4.toNat [])))] 2 (by kernel_rfl) (idx_ok (d := []) (cL 4 cS_FoldLeaf) hp2) ?_
        obtain ⟨hp3,h⟩ := chk_ok h
        refine T_reg_end [(2,{ es := some ((v3 ++ (a0.getD v4.toNat [])).map cS_FoldLeaf) })] [6,25,26,27] [(6,.own 108 4 ((v3 ++ (a0.getD v4.toNat [])).map cS_FoldLeaf))] [(2,(v3.map cS_FoldLeaf).length + ((a0.getD v4.toNat []).map cS_FoldLeaf).length ≤ 4294967296 ∧ (v3.map cS_FoldLeaf) ++ ((a0.getD v4.toNat []).map cS_FoldLeaf) = ((v3 ++ (a0.getD v4.toNat [])).map cS_FoldLeaf))] 1 (by kernel_rfl) (app_ok cS_FoldLeaf hp3) fun a w hm => inBlock_norm (then_norm (((?_ : T Try.prog e 36 _ _ _) a w hm)))
        refine T_reg_end [] [6,25,26,27] [(27,dI (IntKind.i64.wrap (v4 + (1 : Int))))] [] 2 (by kernel_rfl) (trivial) fun a w hm => then_norm (⟨((v3 ++ (a0.getD v4.toNat [])),IntKind.i64.wrap (v4 + (1 : Int))),h,hm.co (cs := [.keep [6,25,26,27]]) (by show _ = _; kernel_rfl)⟩)
      · have h := cond_ff hc h
        obtain hs := Option.some.inj h; subst hs
        refine T_exit fun a w hm => then_exit (then_exit (inBlock_exit (then_norm (hm.co (cs := [.keep [6]]) (by show _ = _; kernel_rfl)))))
    · skip
      refine fun a w hm => then_norm (((?_ : T Try.prog e 36 _ _ _) a w hm))
      refine T_reg [] [2,6] [(2,.vw (6,0))] [] 2 (by kernel_rfl) (trivial) ?_
      obtain hs := Option.some.inj h; subst hs
      refine T_ret fun a w hm => T_return (fr' := [(2,oW2 v6)]) [2] (by kernel_rfl) [.claim 2,.keep [2]] (by kernel_rfl) (by kernel_rfl) (by kernel_rfl) (by show _ = _; kernel_rfl) (by exact trivial) a w hm
theorem fold_sheet_fold_ok {F : Nat} {a0 : S_fold_sheet} {a1 : S_FoldStep} {r : S_fold_sheet} (h : fold_sheet_fold F a0 a1 = some r) : ACall Try.prog 64 [.agg (cS_fold_sheet a0),.agg (cS_FoldStep a1)] [] (.agg (cS_fold_sheet r)) [] := by
  rw [fold_sheet_fold] at h
  refine ACall.intro (N := 117) Try.func64 rfl rfl rfl rfl rfl fun e => ?_
  refine T_reg [] [2,3,4] [(2,bx_fold_sheet a0),(3,bx_FoldStep a1),(4,.box [dI 0,dI 0,oW1 []])] [] 3 (by kernel_rfl) (trivial) ?_
  obtain ⟨y1,hy1,h⟩ := call_ok h
  refine T_reg [(2,{ res := dI y1 })] [2,3,4,5] [(5,dI y1)] [(2,ACall Try.prog 63 [.agg (cS_fold_sheet a0),.agg (cS_FoldStep a1)] [] (dI y1) [])] 1 (by kernel_rfl) (fold_sheet_extent_ok hy1) ?_
  refine T_reg [] [2,3,4,6] [(6,dI (if a1.f1 < (IntKind.i64.wrap (y1 - a1.f1)) then (IntKind.i64.wrap (y1 - a1.f1)) else a1.f1))] [] 8 (by kernel_rfl) (trivial) ?_
  refine T_region [(4,{ take := [0] })] [2,3,4,6,7] [.nilc 7 2 104 1,.keep [2,3,4,6,7]] [(2,bx_fold_sheet a0),(3,bx_FoldStep a1),(4,.box [dI 0,dI 0,oW1 []]),(6,dI (if a1.f1 < (IntKind.i64.wrap (y1 - a1.f1)) then (IntKind.i64.wrap (y1 - a1.f1)) else a1.f1)),(7,.box [dI a0.f0,dI a0.f1,oW1 []])] [] 7 (by kernel_rfl) (trivial) ?_
  refine T_joinc h (fun (p : Int × Int) => [(2,bx_fold_sheet a0),(3,bx_FoldStep a1),(4,.box [dI 0,dI 0,oW1 []]),(6,dI (if a1.f1 < (IntKind.i64.wrap (y1 - a1.f1)) then (IntKind.i64.wrap (y1 - a1.f1)) else a1.f1)),(7,.box [dI p.1,dI p.2,oW1 []])]) (fun s h => ?_) (fun s h => ?_)
  · obtain ⟨y11,hy2,h⟩ := call_ok h
    refine T_reg [(1,{ res := dB y11 })] [2,3,4,6,7,32] [(32,dB y11)] [(1,ACall Try.prog 67 [.agg (cS_FoldStep a1)] [] (dB y11) [])] 0 (by kernel_rfl) (fold_across_ok hy2) ?_
    refine T_cond y11 (by kernel_rfl) (fun hc => ?_) (fun hc => ?_)
    · have h := cond_tt hc h
      obtain hs := Option.some.inj h; subst hs
      refine T_reg_end [] [2,3,4,6,7] [(7,.box [dI (if a1.f1 < (IntKind.i64.wrap (y1 - a1.f1)) then (IntKind.i64.wrap (y1 - a1.f1)) else a1.f1),dI a0.f1,oW1 []])] [] 3 (by kernel_rfl) (trivial) fun a w hm => then_norm (hm.co (cs := [.keep [2,3,4,6,7]]) (by show _ = _; kernel_rfl))
    · have h := cond_ff hc h
      obtain hs := Option.some.inj h; subst hs
      refine T_reg_end [] [2,3,4,6,7] [(7,.box [dI a0.f0,dI (if a1.f1 < (IntKind.i64.wrap (y1 - a1.f1)) then (IntKind.i64.wrap (y1 - a1.f1)) else a1.f1),oW1 []])] [] 3 (by kernel_rfl) (trivial) fun a w hm => then_norm (hm.co (cs := [.keep [2,3,4,6,7]]) (by show _ = _; kernel_rfl))
  · obtain ⟨v1,v13⟩ := s
    try dsimp only at h
    refine T_reg [] [2,3,4,6,7,8] [(8,dB (bif (a1.f0 == (0 : Int)) then true else (a1.f0 == (2 : Int))))] [(4,((((a1.f0 == (0 : Int)) == false) && true) = true → True)),(0,((((a1.f0 == (0 : Int)) == false) && true) = true → True)),(0,((((a1.f0 == (0 : Int)) == false) && true) = true → True))] 2 (by kernel_rfl) (⟨(fun hg => trivial),(fun hg => trivial),(fun hg => trivial)⟩) ?_
    refine T_seqk ?_
    refine T_reg [] [2,3,4,6,7,8,46,47] [(46,dI v13),(47,dI (0 : Int))] [] 3 (by kernel_rfl) (trivial) ?_
    refine T_joinct h (fun (p : (List (List S_FoldLeaf))) => [(4,.box [dI 0,dI 0,oW1 []]),(7,.box [dI v1,dI v13,oW1 p])]) (fun s h => ?_) (fun v16 h => ?_)
    · refine T_co [.keep [2,3,4,6,7,8,46,47]] ((fun (p : (List (List S_FoldLeaf)) × Int) => [(2,bx_fold_sheet a0),(3,bx_FoldStep a1),(4,.box [dI 0,dI 0,oW1 []]),(6,dI (if a1.f1 < (IntKind.i64.wrap (y1 - a1.f1)) then (IntKind.i64.wrap (y1 - a1.f1)) else a1.f1)),(7,.box [dI v1,dI v13,oW1 p.1]),(8,dB (bif (a1.f0 == (0 : Int)) then true else (a1.f0 == (2 : Int)))),(46,dI v13),(47,dI p.2)]) ([],(0 : Int))) (by show _ = _; kernel_rfl) ?_
      refine T_block ?_
      refine T_loopF (ι := (List (List S_FoldLeaf)) × Int) (fun (p : (List (List S_FoldLeaf)) × Int) => [(2,bx_fold_sheet a0),(3,bx_FoldStep a1),(4,.box [dI 0,dI 0,oW1 []]),(6,dI (if a1.f1 < (IntKind.i64.wrap (y1 - a1.f1)) then (IntKind.i64.wrap (y1 - a1.f1)) else a1.f1)),(7,.box [dI v1,dI v13,oW1 p.1]),(8,dB (bif (a1.f0 == (0 : Int)) then true else (a1.f0 == (2 : Int)))),(46,dI v13),(47,dI p.2)]) (fun n p => fold_sheet_fold_L0 F a0 a1 y1 v1 v13 n p.1 p.2 = some s) (fun i hh => by simp [fold_sheet_fold_L0] at hh) (fun n p h => ?_) F ([],(0 : Int)) h
      obtain ⟨v14,v2⟩ := p
      have h : fold_sheet_fold_L0 F a0 a1 y1 v1 v13 (n + 1) v14 v2 = some s := h
      rw [fold_sheet_fold_L0] at h
      refine T_reg [] [2,3,4,6,7,8,46,47,48] [(48,dB (decide (v2 < v13)))] [] 1 (by kernel_rfl) (trivial) ?_
      refine T_seqk ?_
      refine T_cond (decide (v2 < v13)) (by kernel_rfl) (fun hc => ?_) (fun hc => ?_)
      · have h := cond_tt hc h
        refine T_skip fun a w hm => then_norm (((?_ : T Try.prog e 117 _ _ _) a w hm))
        refine T_seqk ?_
        refine T_block ?_
        refine T_reg [] [2,3,4,6,7,8,9,46,47] [(9,dI v2)] [] 2 (by kernel_rfl) (trivial) ?_
        refine T_reg [] [2,3,4,6,7,8,9,46,47,51,52] [(51,dI v1),(52,dI (0 : Int))] [] 3 (by kernel_rfl) (trivial) ?_
        refine T_joinct h (fun (p : (List (List S_FoldLeaf))) => [(2,bx_fold_sheet a0),(3,bx_FoldStep a1),(4,.box [dI 0,dI 0,oW1 []]),(6,dI (if a1.f1 < (IntKind.i64.wrap (y1 - a1.f1)) then (IntKind.i64.wrap (y1 - a1.f1)) else a1.f1)),(7,.box [dI v1,dI v13,oW1 p]),(8,dB (bif (a1.f0 == (0 : Int)) then true else (a1.f0 == (2 : Int)))),(46,dI v13),(47,dI v2)]) (fun s h => ?_) (fun v15 h => ?_)
        · refine T_co [.keep [2,3,4,6,7,8,9,46,47,51,52]] ((fun (p : (List (List S_FoldLeaf)) × Int) => [(2,bx_fold_sheet a0),(3,bx_FoldStep a1),(4,.box [dI 0,dI 0,oW1 []]),(6,dI (if a1.f1 < (IntKind.i64.wrap (y1 - a1.f1)) then (IntKind.i64.wrap (y1 - a1.f1)) else a1.f1)),(7,.box [dI v1,dI v13,oW1 p.1]),(8,dB (bif (a1.f0 == (0 : Int)) then true else (a1.f0 == (2 : Int)))),(9,dI v2),(46,dI v13),(47,dI v2),(51,dI v1),(52,dI p.2)]) (v14,(0 : Int))) (by show _ = _; kernel_rfl) ?_
          refine T_block ?_
          refine T_loopF (ι := (List (List S_FoldLeaf)) × Int) (fun (p : (List (List S_FoldLeaf)) × Int) => [(2,bx_fold_sheet a0),(3,bx_FoldStep a1),(4,.box [dI 0,dI 0,oW1 []]),(6,dI (if a1.f1 < (IntKind.i64.wrap (y1 - a1.f1)) then (IntKind.i64.wrap (y1 - a1.f1)) else a1.f1)),(7,.box [dI v1,dI v13,oW1 p.1]),(8,dB (bif (a1.f0 == (0 : Int)) then true else (a1.f0 == (2 : Int)))),(9,dI v2),(46,dI v13),(47,dI v2),(51,dI v1),(52,dI p.2)]) (fun n p => fold_sheet_fold_L2 F a0 a1 y1 v1 v2 n p.1 p.2 = some s) (fun i hh => by simp [fold_sheet_fold_L2] at hh) (fun n p h => ?_) F (v14,(0 : Int)) h
          obtain ⟨v3,v4⟩ := p
          have h : fold_sheet_fold_L2 F a0 a1 y1 v1 v2 (n + 1) v3 v4 = some s := h
          rw [fold_sheet_fold_L2] at h
          refine T_reg [] [2,3,4,6,7,8,9,46,47,51,52,53] [(53,dB (decide (v4 < v1)))] [] 1 (by kernel_rfl) (trivial) ?_
          refine T_seqk ?_
          refine T_cond (decide (v4 < v1)) (by kernel_rfl) (fun hc => ?_) (fun hc => ?_)
          · have h := cond_tt hc h
            refine T_skip fun a w hm => then_norm (((?_ : T Try.prog e 117 _ _ _) a w hm))
            refine T_seqk ?_
            refine T_block ?_
            refine T_reg [] [2,3,4,6,7,8,9,10,46,47,51,52] [(10,dI v4)] [] 2 (by kernel_rfl) (trivial) ?_
            refine T_reg [] [2,3,4,6,7,8,9,10,11,46,47,51,52] [(11,dI v2)] [] 2 (by kernel_rfl) (trivial) ?_
            refine T_joinc h (fun (p : Int) => [(2,bx_fold_sheet a0),(3,bx_FoldStep a1),(4,.box [dI 0,dI 0,oW1 []]),(6,dI (if a1.f1 < (IntKind.i64.wrap (y1 - a1.f1)) then (IntKind.i64.wrap (y1 - a1.f1)) else a1.f1)),(7,.box [dI v1,dI v13,oW1 v3]),(8,dB (bif (a1.f0 == (0 : Int)) then true else (a1.f0 == (2 : Int)))),(9,dI v2),(10,dI v4),(11,dI p),(46,dI v13),(47,dI v2),(51,dI v1),(52,dI v4)]) (fun s h => ?_) (fun v5 h => ?_)
            · obtain ⟨y2,hy3,h⟩ := call_ok h
              refine T_reg [(1,{ res := dB y2 })] [2,3,4,6,7,8,9,10,11,46,47,51,52,57] [(57,dB y2)] [(1,ACall Try.prog 67 [.agg (cS_FoldStep a1)] [] (dB y2) [])] 0 (by kernel_rfl) (fold_across_ok hy3) ?_
              refine T_cond y2 (by kernel_rfl) (fun hc => ?_) (fun hc => ?_)
              · have h := cond_tt hc h
                obtain hs := Option.some.inj h; subst hs
                refine T_reg_end [] [2,3,4,6,7,8,9,10,11,46,47,51,52] [(11,dI v4)] [] 2 (by kernel_rfl) (trivial) fun a w hm => then_norm (hm.co (cs := [.keep [2,3,4,6,7,8,9,10,11,46,47,51,52]]) (by show _ = _; kernel_rfl))
              · have h := cond_ff hc h
                obtain hs := Option.some.inj h; subst hs
                refine T_skip fun a w hm => then_norm (hm.co (cs := [.keep [2,3,4,6,7,8,9,10,11,46,47,51,52]]) (by show _ = _; kernel_rfl))
            · skip
              refine T_joinc h (fun (p : Int) => [(2,bx_fold_sheet a0),(3,bx_FoldStep a1),(4,.box [dI 0,dI 0,oW1 []]),(6,dI (if a1.f1 < (IntKind.i64.wrap (y1 - a1.f1)) then (IntKind.i64.wrap (y1 - a1.f1)) else a1.f1)),(7,.box [dI v1,dI v13,oW1 v3]),(8,dB (bif (a1.f0 == (0 : Int)) then true else (a1.f0 == (2 : Int)))),(9,dI v2),(10,dI v4),(11,dI p),(46,dI v13),(47,dI v2),(51,dI v1),(52,dI v4)]) (fun s h => ?_) (fun v6 h => ?_)
              · refine T_reg [] [2,3,4,6,7,8,9,10,11,46,47,51,52,60] [(60,dB (!(bif (a1.f0 == (0 : Int)) then true else (a1.f0 == (2 : Int)))))] [] 2 (by kernel_rfl) (trivial) ?_
                refine T_cond (!(bif (a1.f0 == (0 : Int)) then true else (a1.f0 == (2 : Int)))) (by kernel_rfl) (fun hc => ?_) (fun hc => ?_)
                · have h := cond_tt hc h
                  obtain ⟨z1,hz1,h⟩ := lett_ok h
                  obtain hs := Option.some.inj h; subst hs
                  refine T_reg_end [(1,{ rw := some (dI z1) })] [2,3,4,6,7,8,9,10,11,46,47,51,52] [(11,dI (IntKind.i64.wrap (z1 - v5)))] [(1,(True) ∧ dI (IntKind.i64.wrap ((if a1.f1 < (IntKind.i64.wrap (y1 - a1.f1)) then (IntKind.i64.wrap (y1 - a1.f1)) else a1.f1) - (1 : Int))) = dI z1)] 3 (by kernel_rfl) (⟨trivial,(by subst hz1; rfl)⟩) fun a w hm => then_norm (hm.co (cs := [.keep [2,3,4,6,7,8,9,10,11,46,47,51,52]]) (by show _ = _; kernel_rfl))
                · have h := cond_ff hc h
                  obtain hs := Option.some.inj h; subst hs
                  refine T_skip fun a w hm => then_norm (hm.co (cs := [.keep [2,3,4,6,7,8,9,10,11,46,47,51,52]]) (by show _ = _; kernel_rfl))
              · skip
                refine T_draw mixed [] [2,3,4,6,7,8,9,10,12,13,46,47,51,52] [] [(2,bx_fold_sheet a0),(3,bx_FoldStep a1),(4,.box [dI 0,dI 0,oW1 []]),(6,dI (if a1.f1 < (IntKind.i64.wrap (y1 - a1.f1)) then (IntKind.i64.wrap (y1 - a1.f1)) else a1.f1)),(7,.box [dI v1,dI v13,oW1 v3]),(8,dB (bif (a1.f0 == (0 : Int)) then true else (a1.f0 == (2 : Int)))),(9,dI v2),(10,dI v4),(12,dI (IntKind.i64.wrap ((IntKind.i64.wrap (a1.f1 - (1 : Int))) - v6))),(13,dI (IntKind.i64.wrap (a1.f1 + v6))),(46,dI v13),(47,dI v2),(51,dI v1),(52,dI v4)] [] 11 (by kernel_rfl) (trivial) ?_
                refine T_joinc h (fun (p : Int × Int) => [(2,bx_fold_sheet a0),(3,bx_FoldStep a1),(4,.box [dI 0,dI 0,oW1 []]),(6,dI (if a1.f1 < (IntKind.i64.wrap (y1 - a1.f1)) then (IntKind.i64.wrap (y1 - a1.f1)) else a1.f1)),(7,.box [dI v1,dI v13,oW1 v3]),(8,dB (bif (a1.f0 == (0 : Int)) then true else (a1.f0 == (2 : Int)))),(9,dI v2),(10,dI v4),(12,dI p.1),(13,dI p.2),(46,dI v13),(47,dI v2),(51,dI v1),(52,dI v4)]) (fun s h => ?_) (fun s h => ?_)
                · refine T_reg [] [2,3,4,6,7,8,9,10,12,13,46,47,51,52,75] [(75,dB (!(bif (a1.f0 == (0 : Int)) then true else (a1.f0 == (2 : Int)))))] [] 2 (by kernel_rfl) (trivial) ?_
                  refine T_cond (!(bif (a1.f0 == (0 : Int)) then true else (a1.f0 == (2 : Int)))) (by kernel_rfl) (fun hc => ?_) (fun hc => ?_)
                  · have h := cond_tt hc h
                    obtain hs := Option.some.inj h; subst hs
                    refine T_reg_end [] [2,3,4,6,7,8,9,10,12,13,46,47,51,52] [(12,dI (IntKind.i64.wrap (a1.f1 + v6))),(13,dI (IntKind.i64.wrap ((IntKind.i64.wrap (a1.f1 - (1 : Int))) - v6)))] [] 4 (by kernel_rfl) (trivial) fun a w hm => then_norm (hm.co (cs := [.keep [2,3,4,6,7,8,9,10,12,13,46,47,51,52]]) (by show _ = _; kernel_rfl))
                  · have h := cond_ff hc h
                    obtain hs := Option.some.inj h; subst hs
                    refine T_skip fun a w hm => then_norm (hm.co (cs := [.keep [2,3,4,6,7,8,9,10,12,13,46,47,51,52]]) (by show _ = _; kernel_rfl))
                · obtain ⟨v7,v8⟩ := s
                  try dsimp only at h
                  obtain ⟨y3,hy4,h⟩ := call_ok h
                  obtain ⟨y4,hy5,h⟩ := call_ok h
                  refine T_drawX mixed 3 (.take 1 (.take 2 (.take 5 (.take 6 (.all (.alt 0 (.all (.alt 3 (.all (.alt 4 (.all (.alt 7 (.take 8 (.take 9 .done)) .stop)) .stop)) (.alt 4 (.all (.alt 3 (.all (.alt 7 (.take 8 (.take 9 .done)) .stop)) .stop)) .stop))) (.alt 4 (.all (.alt 0 (.all (.alt 3 (.all (.alt 7 (.take 8 (.take 9 .done)) .stop)) .stop)) .stop)) .stop))))))) ([0,0,0,7,0,0,0,120,143,511],[0,0,0,7,0,0,0,112,8,128]) 870 [(3,{ res := .d (.sl 4 (y3.map cS_FoldLeaf)) }),(7,{ res := .d (.sl 4 (y4.map cS_FoldLeaf)) })] [2,3,4,6,7,8,9,12,13,14,15,46,47,51,52] [] [(2,bx_fold_sheet a0),(3,bx_FoldStep a1),(4,.box [dI 0,dI 0,oW1 []]),(6,dI (if a1.f1 < (IntKind.i64.wrap (y1 - a1.f1)) then (IntKind.i64.wrap (y1 - a1.f1)) else a1.f1)),(7,.box [dI v1,dI v13,oW1 v3]),(8,dB (bif (a1.f0 == (0 : Int)) then true else (a1.f0 == (2 : Int)))),(9,dI v2),(12,dI v7),(13,dI v8),(14,.d (.sl 4 (y3.map cS_FoldLeaf))),(15,.d (.sl 4 (y4.map cS_FoldLeaf))),(46,dI v13),(47,dI v2),(51,dI v1),(52,dI v4)] ((fun (o3 : Prop) => fun (o7 : Prop) => [(5,o3),(1,o7),(3,o3),(0,o7),(4,o3),(0,o7)]) (ACall Try.prog 68 [.agg (cS_fold_sheet a0),dI v4,dI v7] [] (.d (.sl 4 (y3.map cS_FoldLeaf))) []) (ACall Try.prog 68 [.agg (cS_fold_sheet a0),dI v4,dI v8] [] (.d (.sl 4 (y4.map cS_FoldLeaf))) [])) 2 (by kernel_rfl) (by kernel_rfl) (by kernel_rfl) (have p3 := fold_sheet_pile_ok hy4; have p7 := fold_sheet_pile_ok hy5; ⟨p3,p7,p3,p7,p3,p7⟩) ?_
                  refine T_joinc h (fun (p : (List S_FoldLeaf) × (List S_FoldLeaf)) => [(2,bx_fold_sheet a0),(3,bx_FoldStep a1),(4,.box [dI 0,dI 0,oW1 []]),(6,dI (if a1.f1 < (IntKind.i64.wrap (y1 - a1.f1)) then (IntKind.i64.wrap (y1 - a1.f1)) else a1.f1)),(7,.box [dI v1,dI v13,oW1 v3]),(8,dB (bif (a1.f0 == (0 : Int)) then true else (a1.f0 == (2 : Int)))),(9,dI v2),(14,.d (.sl 4 (p.1.map cS_FoldLeaf))),(15,.d (.sl 4 (p.2.map cS_FoldLeaf))),(46,dI v13),(47,dI v2),(51,dI v1),(52,dI v4)]) (fun s h => ?_) (fun s h => ?_)
                  · obtain ⟨y5,hy6,h⟩ := call_ok h
                    refine T_reg [(1,{ res := dB y5 })] [2,3,4,6,7,8,9,12,13,14,15,46,47,51,52,87] [(87,dB y5)] [(1,ACall Try.prog 67 [.agg (cS_FoldStep a1)] [] (dB y5) [])] 0 (by kernel_rfl) (fold_across_ok hy6) ?_
                    refine T_cond y5 (by kernel_rfl) (fun hc => ?_) (fun hc => ?_)
                    · have h := cond_tt hc h
                      obtain ⟨y6,hy7,h⟩ := call_ok h
                      obtain ⟨y7,hy8,h⟩ := call_ok h
                      obtain hs := Option.some.inj h; subst hs
                      refine T_drawX_end mixed 3 (.take 1 (.take 2 (.take 5 (.take 6 (.all (.alt 0 (.all (.alt 3 (.all (.alt 4 (.all (.alt 7 (.take 8 (.take 9 .done)) .stop)) .stop)) (.alt 4 (.all (.alt 3 (.all (.alt 7 (.take 8 (.take 9 .done)) .stop)) .stop)) .stop))) (.alt 4 (.all (.alt 0 (.all (.alt 3 (.all (.alt 7 (.take 8 (.take 9 .done)) .stop)) .stop)) .stop)) .stop))))))) ([0,0,0,7,0,0,0,120,143,511],[0,0,0,7,0,0,0,112,8,128]) 870 [(3,{ res := .d (.sl 4 (y6.map cS_FoldLeaf)) }),(7,{ res := .d (.sl 4 (y7.map cS_FoldLeaf)) })] [2,3,4,6,7,8,9,14,15,46,47,51,52] [] [(2,bx_fold_sheet a0),(3,bx_FoldStep a1),(4,.box [dI 0,dI 0,oW1 []]),(6,dI (if a1.f1 < (IntKind.i64.wrap (y1 - a1.f1)) then (IntKind.i64.wrap (y1 - a1.f1)) else a1.f1)),(7,.box [dI v1,dI v13,oW1 v3]),(8,dB (bif (a1.f0 == (0 : Int)) then true else (a1.f0 == (2 : Int)))),(9,dI v2),(14,.d (.sl 4 (y6.map cS_FoldLeaf))),(15,.d (.sl 4 (y7.map cS_FoldLeaf))),(46,dI v13),(47,dI v2),(51,dI v1),(52,dI v4)] ((fun (o3 : Prop) => fun (o7 : Prop) => [(5,o3),(1,o7),(3,o3),(0,o7),(4,o3),(0,o7)]) (ACall Try.prog 68 [.agg (cS_fold_sheet a0),dI v7,dI v2] [] (.d (.sl 4 (y6.map cS_FoldLeaf))) []) (ACall Try.prog 68 [.agg (cS_fold_sheet a0),dI v8,dI v2] [] (.d (.sl 4 (y7.map cS_FoldLeaf))) [])) 2 (by kernel_rfl) (by kernel_rfl) (by kernel_rfl) (have p3 := fold_sheet_pile_ok hy7; have p7 := fold_sheet_pile_ok hy8; ⟨p3,p7,p3,p7,p3,p7⟩) fun a w hm => then_norm (hm.co (cs := [.keep [2,3,4,6,7,8,9,14,15,46,47,51,52]]) (by show _ = _; kernel_rfl))
                    · have h := cond_ff hc h
                      obtain hs := Option.some.inj h; subst hs
                      refine T_skip fun a w hm => then_norm (hm.co (cs := [.keep [2,3,4,6,7,8,9,14,15,46,47,51,52]]) (by show _ = _; kernel_rfl))
                  · obtain ⟨v9,v10⟩ := s
                    try dsimp only at h
                    obtain ⟨y8,hy9,h⟩ := call_ok h
                    obtain ⟨y9,hy10,h⟩ := call_ok h
                    refine T_reg [(2,{ res := dB y8 }),(3,{ res := oW2 y9 })] [2,3,4,6,7,8,9,14,15,46,47,51,52] [(14,oW2 y9)] [(2,ACall Try.prog 67 [.agg (cS_FoldStep a1)] [] (dB y8) []),(0,ACall Try.prog 69 [.d (.sl 4 (v9.map cS_FoldLeaf)),dB y8] [] (oW2 y9) [])] 1 (by kernel_rfl) (⟨fold_across_ok hy9,fold_flipped_ok hy10⟩) ?_
                    refine T_joinc h (fun (p : (List S_FoldLeaf) × (List S_FoldLeaf)) => [(2,bx_fold_sheet a0),(3,bx_FoldStep a1),(4,.box [dI 0,dI 0,oW1 []]),(6,dI (if a1.f1 < (IntKind.i64.wrap (y1 - a1.f1)) then (IntKind.i64.wrap (y1 - a1.f1)) else a1.f1)),(7,.box [dI v1,dI v13,oW1 v3]),(8,dB (bif (a1.f0 == (0 : Int)) then true else (a1.f0 == (2 : Int)))),(9,dI v2),(14,.d (.sl 4 (p.1.map cS_FoldLeaf))),(15,.d (.sl 4 (p.2.map cS_FoldLeaf))),(46,dI v13),(47,dI v2),(51,dI v1),(52,dI v4)]) (fun s h => ?_) (fun s h => ?_)
                    · refine T_reg [] [2,3,4,6,7,8,9,14,15,46,47,51,52,102] [(102,dB (!a1.f2))] [] 3 (by kernel_rfl) (trivial) ?_
                      refine T_cond (!a1.f2) (by kernel_rfl) (fun hc => ?_) (fun hc => ?_)
                      · have h := cond_tt hc h
                        obtain hs := Option.some.inj h; subst hs
                        refine T_reg_end [(1,{ frz := [(14,0)] })] [2,3,4,6,7,8,9,14,15,46,47,51,52] [(14,.d (.sl 4 (v10.map cS_FoldLeaf))),(15,.d (.sl 4 (y9.map cS_FoldLeaf)))] [] 4 (by kernel_rfl) (trivial) fun a w hm => then_norm (hm.co (cs := [.keep [2,3,4,6,7,8,9,14,15,46,47,51,52]]) (by show _ = _; kernel_rfl))
                      · have h := cond_ff hc h
                        obtain hs := Option.some.inj h; subst hs
                        refine T_skip fun a w hm => then_norm (hm.co (cs := [.thaw 14,.keep [2,3,4,6,7,8,9,14,15,46,47,51,52]]) (by show _ = _; kernel_rfl))
                    · obtain ⟨v11,v12⟩ := s
                      try dsimp only at h
                      obtain ⟨y10,hy11,h⟩ := call_ok h
                      obtain ⟨hp1,h⟩ := chk_ok h
                      refine T_drawX_end mixed 4 (.take 0 (.take 2 (.take 3 (.all (.alt 1 (.all (.alt 4 (.all (.alt 5 (.all (.alt 6 (.all (.alt 7 (.take 8 (.all (.alt 9 .done .stop))) .stop)) .stop)) .stop)) .stop)) (.alt 4 (.all (.alt 1 (.all (.alt 5 (.all (.alt 6 (.all (.alt 7 (.take 8 (.all (.alt 9 .done .stop))) .stop)) .stop)) .stop)) (.alt 5 (.all (.alt 1 (.all (.alt 6 (.all (.alt 7 (.take 8 (.all (.alt 9 .done .stop))) .stop)) .stop)) (.alt 6 (.all (.alt 1 (.all (.alt 7 (.take 8 (.all (.alt 9 .done .stop))) .stop)) .stop)) .stop))) .stop))) .stop)))))) ([0,1,0,0,12,16,32,98,255,511],[0,1,0,0,12,16,32,66,0,384]) 269 [(4,{ es := some (([v11,v12]).map (cL 4 cS_FoldLeaf)) }),(5,{ frz := [(109,0)],res := oW2 y10 }),(6,{ frz := [(110,0)],es := some (([y10]).map (cL 4 cS_FoldLeaf)) }),(7,{ es := some ((v3 ++ ([y10])).map (cL 4 cS_FoldLeaf)) })] [2,3,4,6,7,8,9,46,47,51,52] [] [(2,bx_fold_sheet a0),(3,bx_FoldStep a1),(4,.box [dI 0,dI 0,oW1 []]),(6,dI (if a1.f1 < (IntKind.i64.wrap (y1 - a1.f1)) then (IntKind.i64.wrap (y1 - a1.f1)) else a1.f1)),(7,.box [dI v1,dI v13,.own 104 1 ((v3 ++ ([y10])).map (cL 4 cS_FoldLeaf))]),(8,dB (bif (a1.f0 == (0 : Int)) then true else (a1.f0 == (2 : Int)))),(9,dI v2),(46,dI v13),(47,dI v2),(51,dI v1),(52,dI v4)] ((fun (o4 : Prop) => fun (o5 : Prop) => fun (o6 : Prop) => fun (o7 : Prop) => [(4,o4),(0,o5),(0,o6),(0,o7),(2,o4),(1,o5),(0,o6),(0,o7),(2,o5),(1,o6),(0,o7),(2,o6),(1,o7)]) ((([v11,v12]).map (cL 4 cS_FoldLeaf)) = (([v11,v12]).map (cL 4 cS_FoldLeaf))) (ACall Try.prog 70 [.d (.sl 1 (([v11,v12]).map (cL 4 cS_FoldLeaf)))] [] (oW2 y10) []) ((([y10]).map (cL 4 cS_FoldLeaf)) = (([y10]).map (cL 4 cS_FoldLeaf))) ((v3.map (cL 4 cS_FoldLeaf)).length + (([y10]).map (cL 4 cS_FoldLeaf)).length ≤ 4294967296 ∧ (v3.map (cL 4 cS_FoldLeaf)) ++ (([y10]).map (cL 4 cS_FoldLeaf)) = ((v3 ++ ([y10])).map (cL 4 cS_FoldLeaf)))) 2 (by kernel_rfl) (by kernel_rfl) (by kernel_rfl) (have p4 := rfl; have p5 := slices_Concat_FoldLeaf_ok hy11; have p6 := rfl; have p7 := app_ok (cL 4 cS_FoldLeaf) hp1; ⟨p4,p5,p6,p7,p4,p5,p6,p7,p5,p6,p7,p6,p7⟩) fun a w hm => inBlock_norm (then_norm (((?_ : T Try.prog e 117 _ _ _) a w hm)))
                      refine T_reg_end [] [2,3,4,6,7,8,9,46,47,51,52] [(52,dI (IntKind.i64.wrap (v4 + (1 : Int))))] [] 2 (by kernel_rfl) (trivial) fun a w hm => then_norm (⟨((v3 ++ ([y10])),IntKind.i64.wrap (v4 + (1 : Int))),h,hm.co (cs := [.keep [2,3,4,6,7,8,9,46,47,51,52]]) (by show _ = _; kernel_rfl)⟩)
          · have h := cond_ff hc h
            obtain hs := Option.some.inj h; subst hs
            refine T_exit fun a w hm => then_exit (then_exit (inBlock_exit (then_norm (hm.co (cs := [.keep [2,3,4,6,7,8,46,47]]) (by show _ = _; kernel_rfl)))))
        · skip
          refine fun a w hm => inBlock_norm (then_norm (((?_ : T Try.prog e 117 _ _ _) a w hm)))
          refine T_reg_end [] [2,3,4,6,7,8,46,47] [(47,dI (IntKind.i64.wrap (v2 + (1 : Int))))] [] 2 (by kernel_rfl) (trivial) fun a w hm => then_norm (⟨(v15,IntKind.i64.wrap (v2 + (1 : Int))),h,hm.co (cs := [.keep [2,3,4,6,7,8,46,47]]) (by show _ = _; kernel_rfl)⟩)
      · have h := cond_ff hc h
        obtain hs := Option.some.inj h; subst hs
        refine T_exit fun a w hm => then_exit (then_exit (inBlock_exit (then_norm (hm.co (cs := [.keep [4,7]]) (by show _ = _; kernel_rfl)))))
    · skip
      refine fun a w hm => then_norm (((?_ : T Try.prog e 117 _ _ _) a w hm))
      refine T_reg [(0,{ frz := [(7,3)] })] [4] [(4,.box [dI v1,dI v13,.d (.sl 1 (v16.map (cL 4 cS_FoldLeaf)))])] [] 2 (by kernel_rfl) (trivial) ?_
      obtain hs := Option.some.inj h; subst hs
      refine T_ret fun a w hm => T_returnC (fr' := [(4,.box [dI v1,dI v13,.d (.sl 1 (v16.map (cL 4 cS_FoldLeaf)))])]) (ts := [117]) (N' := 118) (fr2 := [(117,.agg (cS_fold_sheet (S_fold_sheet.mk v1 v13 v16)))] ++ [(4,.box [dI v1,dI v13,.d (.sl 1 (v16.map (cL 4 cS_FoldLeaf)))])]) [.keep [4]] (by kernel_rfl) (by kernel_rfl) (by kernel_rfl) (by kernel_rfl) (by show _ = _; kernel_rfl) (by exact trivial) a w hm
theorem fold_Check_ok {F : Nat} {a0 : S_FoldScheme} {r : Int} (h : fold_Check F a0 = some r) : ACall Try.prog 43 [.agg (cS_FoldScheme a0)] [] (.d (.v (.int .i64 r))) [] := by
  rw [fold_Check] at h
  refine ACall.intro (N := 68) Try.func43 rfl rfl rfl rfl rfl fun e => ?_
  refine T_reg [] [1] [(1,bx_FoldScheme a0)] [] 2 (by kernel_rfl) (trivial) ?_
  refine T_seqk ?_
  obtain ⟨z3,hz1,h⟩ := lett_ok h
  refine T_reg [(12,{ rw := some (dB z3) })] [1,23] [(23,dB (bif z3 then true else (decide (a0.f1 > (8 : Int)))))] [(4,((((decide (a0.f0 < (1 : Int))) == false) && true) = true → True)),(0,((((decide (a0.f0 < (1 : Int))) == false) && true) = true → True)),(0,((((decide (a0.f0 < (1 : Int))) == false) && true) = true → True)),(2,((((bif (decide (a0.f0 < (1 : Int))) then true else (decide (a0.f0 > (8 : Int)))) == false) && true) = true → True)),(0,((((bif (decide (a0.f0 < (1 : Int))) then true else (decide (a0.f0 > (8 : Int)))) == false) && true) = true → True)),(0,((((bif (decide (a0.f0 < (1 : Int))) then true else (decide (a0.f0 > (8 : Int)))) == false) && true) = true → True)),(0,(True) ∧ dB (bif (bif (decide (a0.f0 < (1 : Int))) then true else (decide (a0.f0 > (8 : Int)))) then true else (decide (a0.f1 < (1 : Int)))) = dB z3),(1,(((z3 == false) && true) = true → True)),(0,(((z3 == false) && true) = true → True)),(0,(((z3 == false) && true) = true → True))] 1 (by kernel_rfl) (⟨(fun hg => trivial),(fun hg => trivial),(fun hg => trivial),(fun hg => trivial),(fun hg => trivial),(fun hg => trivial),⟨trivial,(by subst hz1; rfl)⟩,(fun hg => trivial),(fun hg => trivial),(fun hg => trivial)⟩) ?_
  refine T_cond (bif z3 then true else (decide (a0.f1 > (8 : Int)))) (by kernel_rfl) (fun hc => ?_) (fun hc => ?_)
  · have h := cond_tt hc h
    refine T_reg [] [2] [(2,dI (3 : Int))] [] 1 (by kernel_rfl) (trivial) ?_
    obtain hs := Option.some.inj h; subst hs
    refine T_ret fun a w hm => then_ret (T_return (fr' := [(2,dI (3 : Int))]) [2] (by kernel_rfl) [.keep [2]] (by kernel_rfl) (by kernel_rfl) (by kernel_rfl) (by show _ = _; kernel_rfl) (by exact trivial) a w hm)
  · have h := cond_ff hc h
    refine T_skip fun a w hm => then_norm (((?_ : T Try.prog e 68 _ _ _) a w hm))
    refine T_seqk ?_
    obtain ⟨z4,hz2,h⟩ := lett_ok h
    refine T_reg [(9,{ rw := some (dI (a0.f2.length : Int)) }),(11,{ rw := some (dB z4) })] [1,35] [(35,dB z4)] [(7,((((decide ((IntKind.i64.wrap (a0.f0 * a0.f1)) > (32 : Int))) == false) && true) = true → True)),(0,((((decide ((IntKind.i64.wrap (a0.f0 * a0.f1)) > (32 : Int))) == false) && true) = true → True)),(0,((((decide ((IntKind.i64.wrap (a0.f0 * a0.f1)) > (32 : Int))) == false) && true) = true → True ∧ dI ((a0.f2.map cS_FoldStep).length : Int) = dI (a0.f2.length : Int))),(0,((((decide ((IntKind.i64.wrap (a0.f0 * a0.f1)) > (32 : Int))) == false) && true) = true → True)),(0,(True) ∧ dB (bif (decide ((IntKind.i64.wrap (a0.f0 * a0.f1)) > (32 : Int))) then true else (decide ((a0.f2.length : Int) > (8 : Int)))) = dB z4)] 0 (by kernel_rfl) (⟨(fun hg => trivial),(fun hg => trivial),(fun hg => len_ok cS_FoldStep),(fun hg => trivial),⟨trivial,(by subst hz2; rfl)⟩⟩) ?_
    refine T_cond z4 (by kernel_rfl) (fun hc => ?_) (fun hc => ?_)
    · have h := cond_tt hc h
      refine T_reg [] [2] [(2,dI (2 : Int))] [] 1 (by kernel_rfl) (trivial) ?_
      obtain hs := Option.some.inj h; subst hs
      refine T_ret fun a w hm => then_ret (T_return (fr' := [(2,dI (2 : Int))]) [2] (by kernel_rfl) [.keep [2]] (by kernel_rfl) (by kernel_rfl) (by kernel_rfl) (by show _ = _; kernel_rfl) (by exact trivial) a w hm)
    · have h := cond_ff hc h
      refine T_skip fun a w hm => then_norm (((?_ : T Try.prog e 68 _ _ _) a w hm))
      obtain ⟨y3,hy1,h⟩ := call_ok h
      refine T_reg [(1,{ res := .agg (cS_fold_sheet y3) })] [1,3] [(3,bx_fold_sheet y3)] [(1,ACall Try.prog 62 [.agg (cS_FoldScheme a0)] [] (.agg (cS_fold_sheet y3)) [])] 2 (by kernel_rfl) (fold_flat_ok hy1) ?_
      refine T_seqk ?_
      refine T_reg [(2,{ rw := some (dI (a0.f2.length : Int)) })] [3,39,40,41] [(39,.d (.sl 3 (a0.f2.map cS_FoldStep))),(40,dI (a0.f2.length : Int)),(41,dI (0 : Int))] [(2,True ∧ dI ((a0.f2.map cS_FoldStep).length : Int) = dI (a0.f2.length : Int))] 1 (by kernel_rfl) (len_ok cS_FoldStep) ?_
      refine T_joinEt h (fun (p : Unit) => []) (fun s h hk1 => ?_) (fun s h => ?_)
      · refine T_co [.keep [3,39,40,41]] ((fun (p : Int × Int × (List (List S_FoldLeaf)) × Int) => [(3,.box [dI p.1,dI p.2.1,.d (.sl 1 (p.2.2.1.map (cL 4 cS_FoldLeaf)))]),(39,.d (.sl 3 (a0.f2.map cS_FoldStep))),(40,dI (a0.f2.length : Int)),(41,dI p.2.2.2)]) (y3.f0,y3.f1,y3.f2,(0 : Int))) (by show _ = _; kernel_rfl) ?_
        refine T_block ?_
        refine T_loopF (ι := Int × Int × (List (List S_FoldLeaf)) × Int) (fun (p : Int × Int × (List (List S_FoldLeaf)) × Int) => [(3,.box [dI p.1,dI p.2.1,.d (.sl 1 (p.2.2.1.map (cL 4 cS_FoldLeaf)))]),(39,.d (.sl 3 (a0.f2.map cS_FoldStep))),(40,dI (a0.f2.length : Int)),(41,dI p.2.2.2)]) (fun n p => fold_Check_L0 F a0 n p.1 p.2.1 p.2.2.1 p.2.2.2 = some s) (fun i hh => by simp [fold_Check_L0] at hh) (fun n p h => ?_) F (y3.f0,y3.f1,y3.f2,(0 : Int)) h
        obtain ⟨v1,v2,v3,v4⟩ := p
        have h : fold_Check_L0 F a0 (n + 1) v1 v2 v3 v4 = some s := h
        rw [fold_Check_L0] at h
        refine T_reg [] [3,39,40,41,42] [(42,dB (decide (v4 < (a0.f2.length : Int))))] [] 1 (by kernel_rfl) (trivial) ?_
        refine T_seqk ?_
        refine T_cond (decide (v4 < (a0.f2.length : Int))) (by kernel_rfl) (fun hc => ?_) (fun hc => ?_)
        · have h := cond_tt hc h
          refine T_skip fun a w hm => then_norm (((?_ : T Try.prog e 68 _ _ _) a w hm))
          refine T_seqk ?_
          refine T_block ?_
          obtain ⟨hp1,h⟩ := chk_ok h
          refine T_reg [(0,{ cs := cS_FoldStep (a0.f2.getD v4.toNat z_FoldStep) })] [3,5,39,40,41] [(5,.box [dI ((a0.f2.getD v4.toNat z_FoldStep).f0),dI ((a0.f2.getD v4.toNat z_FoldStep).f1),dB ((a0.f2.getD v4.toNat z_FoldStep).f2)])] [(0,0 ≤ v4 ∧ (a0.f2.map cS_FoldStep)[v4.toNat]? = some (cS_FoldStep (a0.f2.getD v4.toNat z_FoldStep)))] 3 (by kernel_rfl) (idx_ok (d := z_FoldStep) cS_FoldStep hp1) ?_
          refine T_seqk ?_
          obtain ⟨z1,hz3,h⟩ := lett_ok h
          refine T_reg [(7,{ rw := some (dB z1) })] [3,5,39,40,41,52] [(52,dB z1)] [(4,((((decide (((a0.f2.getD v4.toNat z_FoldStep).f0) < (0 : Int))) == false) && true) = true → True)),(0,((((decide (((a0.f2.getD v4.toNat z_FoldStep).f0) < (0 : Int))) == false) && true) = true → True)),(0,((((decide (((a0.f2.getD v4.toNat z_FoldStep).f0) < (0 : Int))) == false) && true) = true → True)),(0,(True) ∧ dB (bif (decide (((a0.f2.getD v4.toNat z_FoldStep).f0) < (0 : Int))) then true else (decide (((a0.f2.getD v4.toNat z_FoldStep).f0) > (3 : Int)))) = dB z1)] 0 (by kernel_rfl) (⟨(fun hg => trivial),(fun hg => trivial),(fun hg => trivial),⟨trivial,(by subst hz3; rfl)⟩⟩) ?_
          refine T_cond z1 (by kernel_rfl) (fun hc => ?_) (fun hc => ?_)
          · have h := cond_tt hc h
            refine T_reg [] [2] [(2,dI (14 : Int))] [] 1 (by kernel_rfl) (trivial) ?_
            obtain hs := Option.some.inj h; subst hs
            have h := callE_esc hk1
            obtain hs := Option.some.inj h; subst hs
            refine T_ret fun a w hm => then_ret (inBlock_ret (then_ret (then_ret (inBlock_ret (then_ret (then_ret (T_return (fr' := [(2,dI (14 : Int))]) [2] (by kernel_rfl) [.keep [2]] (by kernel_rfl) (by kernel_rfl) (by kernel_rfl) (by show _ = _; kernel_rfl) (by exact trivial) a w hm)))))))
          · have h := cond_ff hc h
            refine T_skip fun a w hm => then_norm (((?_ : T Try.prog e 68 _ _ _) a w hm))
            refine T_seqk ?_
            obtain ⟨y1,hy2,h⟩ := call_ok h
            obtain ⟨z2,hz4,h⟩ := lett_ok h
            refine T_drawX mixed 20 (.take 0 (.all (.alt 1 (.take 2 (.take 3 (.all (.alt 4 (.all (.alt 5 (.all (.alt 6 (.all (.alt 7 (.all (.alt 8 (.all (.alt 9 (.all (.alt 10 .done .stop)) .stop)) .stop)) .stop)) (.alt 7 (.all (.alt 6 (.all (.alt 8 (.all (.alt 9 (.all (.alt 10 .done .stop)) .stop)) .stop)) .stop)) .stop))) (.alt 6 (.all (.alt 5 (.all (.alt 7 (.all (.alt 8 (.all (.alt 9 (.all (.alt 10 .done .stop)) .stop)) .stop)) .stop)) (.alt 7 (.all (.alt 5 (.all (.alt 8 (.all (.alt 9 (.all (.alt 10 .done .stop)) .stop)) .stop)) (.alt 8 (.all (.alt 5 (.all (.alt 9 (.all (.alt 10 .done .stop)) .stop)) .stop)) .stop))) .stop))) (.alt 7 (.all (.alt 5 (.all (.alt 6 (.all (.alt 8 (.all (.alt 9 (.all (.alt 10 .done .stop)) .stop)) .stop)) .stop)) (.alt 6 (.all (.alt 5 (.all (.alt 8 (.all (.alt 9 (.all (.alt 10 .done .stop)) .stop)) .stop)) (.alt 8 (.all (.alt 5 (.all (.alt 9 (.all (.alt 10 .done .stop)) .stop)) .stop)) .stop))) .stop))) .stop)))) (.alt 6 (.all (.alt 4 (.all (.alt 5 (.all (.alt 7 (.all (.alt 8 (.all (.alt 9 (.all (.alt 10 .done .stop)) .stop)) .stop)) .stop)) (.alt 7 (.all (.alt 5 (.all (.alt 8 (.all (.alt 9 (.all (.alt 10 .done .stop)) .stop)) .stop)) (.alt 8 (.all (.alt 5 (.all (.alt 9 (.all (.alt 10 .done .stop)) .stop)) .stop)) .stop))) .stop))) (.alt 7 (.all (.alt 4 (.all (.alt 5 (.all (.alt 8 (.all (.alt 9 (.all (.alt 10 .done .stop)) .stop)) .stop)) (.alt 8 (.all (.alt 5 (.all (.alt 9 (.all (.alt 10 .done .stop)) .stop)) .stop)) .stop))) (.alt 8 (.all (.alt 4 (.all (.alt 5 (.all (.alt 9 (.all (.alt 10 .done .stop)) .stop)) .stop)) .stop)) .stop))) .stop))) (.alt 7 (.all (.alt 4 (.all (.alt 5 (.all (.alt 6 (.all (.alt 8 (.all (.alt 9 (.all (.alt 10 .done .stop)) .stop)) .stop)) .stop)) (.alt 6 (.all (.alt 5 (.all (.alt 8 (.all (.alt 9 (.all (.alt 10 .done .stop)) .stop)) .stop)) (.alt 8 (.all (.alt 5 (.all (.alt 9 (.all (.alt 10 .done .stop)) .stop)) .stop)) .stop))) .stop))) (.alt 6 (.all (.alt 4 (.all (.alt 5 (.all (.alt 8 (.all (.alt 9 (.all (.alt 10 .done .stop)) .stop)) .stop)) (.alt 8 (.all (.alt 5 (.all (.alt 9 (.all (.alt 10 .done .stop)) .stop)) .stop)) .stop))) (.alt 8 (.all (.alt 4 (.all (.alt 5 (.all (.alt 9 (.all (.alt 10 .done .stop)) .stop)) .stop)) .stop)) .stop))) .stop))) .stop)))))) .stop))) ([0,1,2,4,8,24,8,8,200,296,520],[0,1,2,4,8,24,8,8,200,296,520]) 13 [(8,{ res := dI y1 }),(10,{ rw := some (dB z2) })] [3,5,39,40,41,63] [] [(3,.box [dI v1,dI v2,.d (.sl 1 (v3.map (cL 4 cS_FoldLeaf)))]),(5,.box [dI ((a0.f2.getD v4.toNat z_FoldStep).f0),dI ((a0.f2.getD v4.toNat z_FoldStep).f1),dB ((a0.f2.getD v4.toNat z_FoldStep).f2)]),(39,.d (.sl 3 (a0.f2.map cS_FoldStep))),(40,dI (a0.f2.length : Int)),(41,dI v4),(63,dB z2)] ((fun (o4 : Prop) => fun (o5 : Prop) => fun (o6 : Prop) => fun (o7 : Prop) => fun (o8 : Prop) => fun (o9 : Prop) => fun (o10 : Prop) => [(4,o4),(0,o5),(0,o6),(0,o7),(0,o8),(0,o9),(0,o10),(0,o7),(0,o6),(0,o8),(0,o9),(0,o10),(0,o6),(0,o5),(0,o7),(0,o8),(0,o9),(0,o10),(0,o7),(0,o5),(0,o8),(0,o9),(0,o10),(0,o8),(0,o5),(0,o9),(0,o10),(0,o7),(0,o5),(0,o6),(0,o8),(0,o9),(0,o10),(0,o6),(0,o5),(0,o8),(0,o9),(0,o10),(0,o8),(0,o5),(0,o9),(0,o10),(0,o6),(0,o4),(0,o5),(0,o7),(0,o8),(0,o9),(0,o10),(0,o7),(0,o5),(0,o8),(0,o9),(0,o10),(0,o8),(0,o5),(0,o9),(0,o10),(0,o7),(0,o4),(0,o5),(0,o8),(0,o9),(0,o10),(0,o8),(0,o5),(0,o9),(0,o10),(0,o8),(0,o4),(0,o5),(0,o9),(0,o10),(0,o7),(0,o4),(0,o5),(0,o6),(0,o8),(0,o9),(0,o10),(0,o6),(0,o5),(0,o8),(0,o9),(0,o10),(0,o8),(0,o5),(0,o9),(0,o10),(0,o6),(0,o4),(0,o5),(0,o8),(0,o9),(0,o10),(0,o8),(0,o5),(0,o9),(0,o10),(0,o8),(0,o4),(0,o5),(0,o9),(0,o10)]) (((((decide (((a0.f2.getD v4.toNat z_FoldStep).f1) < (1 : Int))) == false) && true) = true → True)) (((((decide (((a0.f2.getD v4.toNat z_FoldStep).f1) < (1 : Int))) == false) && true) = true → True)) (((((decide (((a0.f2.getD v4.toNat z_FoldStep).f1) < (1 : Int))) == false) && true) = true → True)) (((((decide (((a0.f2.getD v4.toNat z_FoldStep).f1) < (1 : Int))) == false) && true) = true → True)) (((((decide (((a0.f2.getD v4.toNat z_FoldStep).f1) < (1 : Int))) == false) && true) = true → ACall Try.prog 63 [.agg (cS_fold_sheet (S_fold_sheet.mk v1 v2 v3)),.agg (cS_FoldStep (a0.f2.getD v4.toNat z_FoldStep))] [] (dI y1) [])) (((((decide (((a0.f2.getD v4.toNat z_FoldStep).f1) < (1 : Int))) == false) && true) = true → True)) ((True) ∧ dB (bif (decide (((a0.f2.getD v4.toNat z_FoldStep).f1) < (1 : Int))) then true else (decide (((a0.f2.getD v4.toNat z_FoldStep).f1) ≥ y1))) = dB z2)) 0 (by kernel_rfl) (by kernel_rfl) (by kernel_rfl) (have p4 := (fun hg => trivial); have p5 := (fun hg => trivial); have p6 := (fun hg => trivial); have p7 := (fun hg => trivial); have p8 := (fun hg => fold_sheet_extent_ok (gcall_ok hg hy2)); have p9 := (fun hg => trivial); have p10 := ⟨trivial,(by subst hz4; rfl)⟩; ⟨p4,p5,p6,p7,p8,p9,p10,p7,p6,p8,p9,p10,p6,p5,p7,p8,p9,p10,p7,p5,p8,p9,p10,p8,p5,p9,p10,p7,p5,p6,p8,p9,p10,p6,p5,p8,p9,p10,p8,p5,p9,p10,p6,p4,p5,p7,p8,p9,p10,p7,p5,p8,p9,p10,p8,p5,p9,p10,p7,p4,p5,p8,p9,p10,p8,p5,p9,p10,p8,p4,p5,p9,p10,p7,p4,p5,p6,p8,p9,p10,p6,p5,p8,p9,p10,p8,p5,p9,p10,p6,p4,p5,p8,p9,p10,p8,p5,p9,p10,p8,p4,p5,p9,p10⟩) ?_
            refine T_cond z2 (by kernel_rfl) (fun hc => ?_) (fun hc => ?_)
            · have h := cond_tt hc h
              refine T_reg [] [2] [(2,dI (3 : Int))] [] 1 (by kernel_rfl) (trivial) ?_
              obtain hs := Option.some.inj h; subst hs
              have h := callE_esc hk1
              obtain hs := Option.some.inj h; subst hs
              refine T_ret fun a w hm => then_ret (inBlock_ret (then_ret (then_ret (inBlock_ret (then_ret (then_ret (T_return (fr' := [(2,dI (3 : Int))]) [2] (by kernel_rfl) [.keep [2]] (by kernel_rfl) (by kernel_rfl) (by kernel_rfl) (by show _ = _; kernel_rfl) (by exact trivial) a w hm)))))))
            · have h := cond_ff hc h
              refine T_skip fun a w hm => then_norm (((?_ : T Try.prog e 68 _ _ _) a w hm))
              obtain ⟨y2,hy3,h⟩ := call_ok h
              refine T_reg_end [(2,{ res := .agg (cS_fold_sheet y2) })] [3,39,40,41] [(3,bx_fold_sheet y2)] [(2,ACall Try.prog 64 [.agg (cS_fold_sheet (S_fold_sheet.mk v1 v2 v3)),.agg (cS_FoldStep (a0.f2.getD v4.toNat z_FoldStep))] [] (.agg (cS_fold_sheet y2)) [])] 1 (by kernel_rfl) (fold_sheet_fold_ok hy3) fun a w hm => inBlock_norm (then_norm (((?_ : T Try.prog e 68 _ _ _) a w hm)))
              refine T_reg_end [] [3,39,40,41] [(41,dI (IntKind.i64.wrap (v4 + (1 : Int))))] [] 2 (by kernel_rfl) (trivial) fun a w hm => then_norm (⟨(y2.f0,y2.f1,y2.f2,IntKind.i64.wrap (v4 + (1 : Int))),h,hm.co (cs := [.keep [3,39,40,41]]) (by show _ = _; kernel_rfl)⟩)
        · have h := cond_ff hc h
          obtain hs := Option.some.inj h; subst hs
          refine T_exit fun a w hm => then_exit (then_exit (inBlock_exit (then_norm (⟨_,rfl,hm.co (cs := [.keep []]) (by show _ = _; kernel_rfl)⟩))))
      · skip
        refine fun a w hm => then_norm (((?_ : T Try.prog e 68 _ _ _) a w hm))
        refine T_reg [] [2] [(2,dI (0 : Int))] [] 1 (by kernel_rfl) (trivial) ?_
        obtain hs := Option.some.inj h; subst hs
        refine T_ret fun a w hm => T_return (fr' := [(2,dI (0 : Int))]) [2] (by kernel_rfl) [.keep [2]] (by kernel_rfl) (by kernel_rfl) (by kernel_rfl) (by show _ = _; kernel_rfl) (by exact trivial) a w hm
theorem fold_after_ok {F : Nat} {a0 : S_FoldScheme} {a1 : Int} {r : S_fold_sheet × Int} (h : fold_after F a0 a1 = some r) : ACall Try.prog 65 [.agg (cS_FoldScheme a0),.d (.v (.int .i64 a1))] [] (.tup [.agg (cS_fold_sheet r.1),.d (.v (.int .i64 r.2))]) [] := by
  rw [fold_after] at h
  refine ACall.intro (N := 42) Try.func65 rfl rfl rfl rfl rfl fun e => ?_
  refine T_reg [] [1,2,4] [(2,bx_FoldScheme a0),(4,.box [dI 0,dI 0,oW1 []])] [] 3 (by kernel_rfl) (trivial) ?_
  refine T_seqk ?_
  obtain ⟨y2,hy1,h⟩ := call_ok h
  refine T_reg [(1,{ res := dI y2 })] [1,2,4,6] [(6,dI y2)] [(1,ACall Try.prog 43 [.agg (cS_FoldScheme a0)] [] (dI y2) [])] 1 (by kernel_rfl) (fold_Check_ok hy1) ?_
  refine T_reg [] [1,2,4,6,13] [(13,dB (y2 != (0 : Int)))] [] 2 (by kernel_rfl) (trivial) ?_
  refine T_cond (y2 != (0 : Int)) (by kernel_rfl) (fun hc => ?_) (fun hc => ?_)
  · have h := cond_tt hc h
    refine T_region [(0,{ take := [0] })] [4,5] [.nilc 4 2 104 1,.keep [4,5]] [(4,.box [dI 0,dI 0,oW1 []]),(5,dI y2)] [] 4 (by kernel_rfl) (trivial) ?_
    obtain hs := Option.some.inj h; subst hs
    refine T_ret fun a w hm => then_ret (T_returnC (fr' := [(4,.box [dI 0,dI 0,.fz 1 ([].map (cL 4 cS_FoldLeaf))]),(5,dI y2)]) (ts := [42,5]) (N' := 43) (fr2 := [(42,.agg (cS_fold_sheet z_fold_sheet))] ++ [(4,.box [dI 0,dI 0,.fz 1 ([].map (cL 4 cS_FoldLeaf))]),(5,dI y2)]) [.frz (4,3),.keep [4,5]] (by kernel_rfl) (by kernel_rfl) (by kernel_rfl) (by kernel_rfl) (by show _ = _; kernel_rfl) (by exact trivial) a w hm)
  · have h := cond_ff hc h
    refine T_skip fun a w hm => then_norm (((?_ : T Try.prog e 42 _ _ _) a w hm))
    refine T_seqk ?_
    refine T_reg [(6,{ rw := some (dI (a0.f2.length : Int)) })] [1,2,4,24] [(24,dB (bif (decide (a1 < (0 : Int))) then true else (decide (a1 > (a0.f2.length : Int)))))] [(3,((((decide (a1 < (0 : Int))) == false) && true) = true → True)),(0,((((decide (a1 < (0 : Int))) == false) && true) = true → True)),(0,((((decide (a1 < (0 : Int))) == false) && true) = true → True)),(0,((((decide (a1 < (0 : Int))) == false) && true) = true → True ∧ dI ((a0.f2.map cS_FoldStep).length : Int) = dI (a0.f2.length : Int))),(0,((((decide (a1 < (0 : Int))) == false) && true) = true → True))] 1 (by kernel_rfl) (⟨(fun hg => trivial),(fun hg => trivial),(fun hg => trivial),(fun hg => len_ok cS_FoldStep),(fun hg => trivial)⟩) ?_
    refine T_cond (bif (decide (a1 < (0 : Int))) then true else (decide (a1 > (a0.f2.length : Int)))) (by kernel_rfl) (fun hc => ?_) (fun hc => ?_)
    · have h := cond_tt hc h
      refine T_region [(0,{ take := [0] })] [4,5] [.nilc 4 2 104 1,.keep [4,5]] [(4,.box [dI 0,dI 0,oW1 []]),(5,dI (3 : Int))] [] 3 (by kernel_rfl) (trivial) ?_
      obtain hs := Option.some.inj h; subst hs
      refine T_ret fun a w hm => then_ret (T_returnC (fr' := [(4,.box [dI 0,dI 0,.fz 1 ([].map (cL 4 cS_FoldLeaf))]),(5,dI (3 : Int))]) (ts := [42,5]) (N' := 43) (fr2 := [(42,.agg (cS_fold_sheet z_fold_sheet))] ++ [(4,.box [dI 0,dI 0,.fz 1 ([].map (cL 4 cS_FoldLeaf))]),(5,dI (3 : Int))]) [.frz (4,3),.keep [4,5]] (by kernel_rfl) (by kernel_rfl) (by kernel_rfl) (by kernel_rfl) (by show _ = _; kernel_rfl) (by exact trivial) a w hm)
    · have h := cond_ff hc h
      refine T_skip fun a w hm => then_norm (((?_ : T Try.prog e 42 _ _ _) a w hm))
      obtain ⟨y3,hy2,h⟩ := call_ok h
      refine T_reg [(1,{ res := .agg (cS_fold_sheet y3) })] [1,2,4,7] [(7,bx_fold_sheet y3)] [(1,ACall Try.prog 62 [.agg (cS_FoldScheme a0)] [] (.agg (cS_fold_sheet y3)) [])] 2 (by kernel_rfl) (fold_flat_ok hy2) ?_
      refine T_seqk ?_
      obtain ⟨hp1,h⟩ := chk_ok h
      refine T_reg [(3,{ rw := some (.d (.sl 3 (((a0.f2.drop (0 : Int).toNat).take (a1.toNat - (0 : Int).toNat)).map cS_FoldStep))) }),(4,{ rw := some (dI (((a0.f2.drop (0 : Int).toNat).take (a1.toNat - (0 : Int).toNat)).length : Int)) })] [4,7,31,32,33] [(31,.d (.sl 3 (((a0.f2.drop (0 : Int).toNat).take (a1.toNat - (0 : Int).toNat)).map cS_FoldStep))),(32,dI (((a0.f2.drop (0 : Int).toNat).take (a1.toNat - (0 : Int).toNat)).length : Int)),(33,dI (0 : Int))] [(3,(0 ≤ (0 : Int) ∧ (0 : Int) ≤ a1 ∧ a1 ≤ ((a0.f2.map cS_FoldStep).length : Int)) ∧ AV.d (.sl 3 (((a0.f2.map cS_FoldStep).drop (0 : Int).toNat).take (a1.toNat - (0 : Int).toNat))) = .d (.sl 3 (((a0.f2.drop (0 : Int).toNat).take (a1.toNat - (0 : Int).toNat)).map cS_FoldStep))),(0,True ∧ dI ((((a0.f2.drop (0 : Int).toNat).take (a1.toNat - (0 : Int).toNat)).map cS_FoldStep).length : Int) = dI (((a0.f2.drop (0 : Int).toNat).take (a1.toNat - (0 : Int).toNat)).length : Int))] 1 (by kernel_rfl) (⟨cutH cS_FoldStep hp1,len_ok cS_FoldStep⟩) ?_
      refine T_joinct h (fun (p : Int × Int × (List (List S_FoldLeaf))) => [(4,.box [dI 0,dI 0,oW1 []]),(7,.box [dI p.1,dI p.2.1,.d (.sl 1 (p.2.2.map (cL 4 cS_FoldLeaf)))])]) (fun s h => ?_) (fun s h => ?_)
      · refine T_co [.keep [4,7,31,32,33]] ((fun (p : Int × Int × (List (List S_FoldLeaf)) × Int) => [(4,.box [dI 0,dI 0,oW1 []]),(7,.box [dI p.1,dI p.2.1,.d (.sl 1 (p.2.2.1.map (cL 4 cS_FoldLeaf)))]),(31,.d (.sl 3 (((a0.f2.drop (0 : Int).toNat).take (a1.toNat - (0 : Int).toNat)).map cS_FoldStep))),(32,dI (((a0.f2.drop (0 : Int).toNat).take (a1.toNat - (0 : Int).toNat)).length : Int)),(33,dI p.2.2.2)]) (y3.f0,y3.f1,y3.f2,(0 : Int))) (by show _ = _; kernel_rfl) ?_
        refine T_block ?_
        refine T_loopF (ι := Int × Int × (List (List S_FoldLeaf)) × Int) (fun (p : Int × Int × (List (List S_FoldLeaf)) × Int) => [(4,.box [dI 0,dI 0,oW1 []]),(7,.box [dI p.1,dI p.2.1,.d (.sl 1 (p.2.2.1.map (cL 4 cS_FoldLeaf)))]),(31,.d (.sl 3 (((a0.f2.drop (0 : Int).toNat).take (a1.toNat - (0 : Int).toNat)).map cS_FoldStep))),(32,dI (((a0.f2.drop (0 : Int).toNat).take (a1.toNat - (0 : Int).toNat)).length : Int)),(33,dI p.2.2.2)]) (fun n p => fold_after_L0 F a0 a1 n p.1 p.2.1 p.2.2.1 p.2.2.2 = some s) (fun i hh => by simp [fold_after_L0] at hh) (fun n p h => ?_) F (y3.f0,y3.f1,y3.f2,(0 : Int)) h
        obtain ⟨v1,v2,v3,v4⟩ := p
        have h : fold_after_L0 F a0 a1 (n + 1) v1 v2 v3 v4 = some s := h
        rw [fold_after_L0] at h
        refine T_reg [] [4,7,31,32,33,34] [(34,dB (decide (v4 < (((a0.f2.drop (0 : Int).toNat).take (a1.toNat - (0 : Int).toNat)).length : Int))))] [] 1 (by kernel_rfl) (trivial) ?_
        refine T_seqk ?_
        refine T_cond (decide (v4 < (((a0.f2.drop (0 : Int).toNat).take (a1.toNat - (0 : Int).toNat)).length : Int))) (by kernel_rfl) (fun hc => ?_) (fun hc => ?_)
        · have h := cond_tt hc h
          refine T_skip fun a w hm => then_norm (((?_ : T Try.prog e 42 _ _ _) a w hm))
          refine T_seqk ?_
          refine T_block ?_
          obtain ⟨hp2,h⟩ := chk_ok h
          refine T_reg [(0,{ cs := cS_FoldStep (((a0.f2.drop (0 : Int).toNat).take (a1.toNat - (0 : Int).toNat)).getD v4.toNat z_FoldStep) })] [4,7,9,31,32,33] [(9,.box [dI ((((a0.f2.drop (0 : Int).toNat).take (a1.toNat - (0 : Int).toNat)).getD v4.toNat z_FoldStep).f0),dI ((((a0.f2.drop (0 : Int).toNat).take (a1.toNat - (0 : Int).toNat)).getD v4.toNat z_FoldStep).f1),dB ((((a0.f2.drop (0 : Int).toNat).take (a1.toNat - (0 : Int).toNat)).getD v4.toNat z_FoldStep).f2)])] [(0,0 ≤ v4 ∧ (((a0.f2.drop (0 : Int).toNat).take (a1.toNat - (0 : Int).toNat)).map cS_FoldStep)[v4.toNat]? = some (cS_FoldStep (((a0.f2.drop (0 : Int).toNat).take (a1.toNat - (0 : Int).toNat)).getD v4.toNat z_FoldStep)))] 3 (by kernel_rfl) (idx_ok (d := z_FoldStep) cS_FoldStep hp2) ?_
          obtain ⟨y1,hy3,h⟩ := call_ok h
          refine T_reg_end [(2,{ res := .agg (cS_fold_sheet y1) })] [4,7,31,32,33] [(7,bx_fold_sheet y1)] [(2,ACall Try.prog 64 [.agg (cS_fold_sheet (S_fold_sheet.mk v1 v2 v3)),.agg (cS_FoldStep (((a0.f2.drop (0 : Int).toNat).take (a1.toNat - (0 : Int).toNat)).getD v4.toNat z_FoldStep))] [] (.agg (cS_fold_sheet y1)) [])] 1 (by kernel_rfl) (fold_sheet_fold_ok hy3) fun a w hm => inBlock_norm (then_norm (((?_ : T Try.prog e 42 _ _ _) a w hm)))
          refine T_reg_end [] [4,7,31,32,33] [(33,dI (IntKind.i64.wrap (v4 + (1 : Int))))] [] 2 (by kernel_rfl) (trivial) fun a w hm => then_norm (⟨(y1.f0,y1.f1,y1.f2,IntKind.i64.wrap (v4 + (1 : Int))),h,hm.co (cs := [.keep [4,7,31,32,33]]) (by show _ = _; kernel_rfl)⟩)
        · have h := cond_ff hc h
          obtain hs := Option.some.inj h; subst hs
          refine T_exit fun a w hm => then_exit (then_exit (inBlock_exit (then_norm (hm.co (cs := [.keep [4,7]]) (by show _ = _; kernel_rfl)))))
      · obtain ⟨v5,v6,v7⟩ := s
        try dsimp only at h
        refine fun a w hm => then_norm (((?_ : T Try.prog e 42 _ _ _) a w hm))
        refine T_reg [] [4,5] [(4,.box [dI v5,dI v6,.d (.sl 1 (v7.map (cL 4 cS_FoldLeaf)))]),(5,dI (0 : Int))] [] 3 (by kernel_rfl) (trivial) ?_
        obtain hs := Option.some.inj h; subst hs
        refine T_ret fun a w hm => T_returnC (fr' := [(4,.box [dI v5,dI v6,.d (.sl 1 (v7.map (cL 4 cS_FoldLeaf)))]),(5,dI (0 : Int))]) (ts := [42,5]) (N' := 43) (fr2 := [(42,.agg (cS_fold_sheet (S_fold_sheet.mk v5 v6 v7)))] ++ [(4,.box [dI v5,dI v6,.d (.sl 1 (v7.map (cL 4 cS_FoldLeaf)))]),(5,dI (0 : Int))]) [.keep [4,5]] (by kernel_rfl) (by kernel_rfl) (by kernel_rfl) (by kernel_rfl) (by show _ = _; kernel_rfl) (by exact trivial) a w hm
theorem fold_folded_ok {F : Nat} {a0 : S_FoldScheme} {r : (List S_FoldLeaf) × Int × Int} (h : fold_folded F a0 = some r) : ACall Try.prog 45 [.agg (cS_FoldScheme a0)] [] (.tup [.d (.sl 4 (r.1.map cS_FoldLeaf)),.d (.v (.int .i64 r.2.1)),.d (.v (.int .i64 r.2.2))]) [] := by
  rw [fold_folded] at h
  refine ACall.intro (N := 45) Try.func45 rfl rfl rfl rfl rfl fun e => ?_
  refine T_reg [] [1] [(1,bx_FoldScheme a0)] [] 4 (by kernel_rfl) (trivial) ?_
  obtain ⟨y1,hy1,h⟩ := call_ok h
  refine T_reg [(3,{ rw := some (dI (a0.f2.length : Int)) }),(4,{ res := .tup [.agg (cS_fold_sheet y1.1),dI y1.2] })] [1,5,6] [(5,bx_fold_sheet y1.1),(6,dI y1.2)] [(3,True ∧ dI ((a0.f2.map cS_FoldStep).length : Int) = dI (a0.f2.length : Int)),(0,ACall Try.prog 65 [.agg (cS_FoldScheme a0),dI (a0.f2.length : Int)] [] (.tup [.agg (cS_fold_sheet y1.1),dI y1.2]) [])] 6 (by kernel_rfl) (⟨len_ok cS_FoldStep,fold_after_ok hy1⟩) ?_
  refine T_seqk ?_
  refine T_reg [] [1,5,6,17] [(17,dB (y1.2 != (0 : Int)))] [] 2 (by kernel_rfl) (trivial) ?_
  refine T_cond (y1.2 != (0 : Int)) (by kernel_rfl) (fun hc => ?_) (fun hc => ?_)
  · have h := cond_tt hc h
    refine T_reg [] [2,3,4] [(2,oW2 []),(3,dI (0 : Int)),(4,dI y1.2)] [] 4 (by kernel_rfl) (trivial) ?_
    obtain hs := Option.some.inj h; subst hs
    refine T_ret fun a w hm => then_ret (T_return (fr' := [(2,.d (.sl 4 ([].map cS_FoldLeaf))),(3,dI (0 : Int)),(4,dI y1.2)]) [2,3,4] (by kernel_rfl) [.thaw 2,.keep [2,3,4]] (by kernel_rfl) (by kernel_rfl) (by kernel_rfl) (by show _ = _; kernel_rfl) (by exact trivial) a w hm)
  · have h := cond_ff hc h
    refine T_skip fun a w hm => then_norm (((?_ : T Try.prog e 45 _ _ _) a w hm))
    refine T_seqk ?_
    refine T_reg [] [1,5,26] [(26,dB (bif (y1.1.f0 != (1 : Int)) then true else (y1.1.f1 != (1 : Int))))] [(4,((((y1.1.f0 != (1 : Int)) == false) && true) = true → True)),(0,((((y1.1.f0 != (1 : Int)) == false) && true) = true → True)),(0,((((y1.1.f0 != (1 : Int)) == false) && true) = true → True))] 1 (by kernel_rfl) (⟨(fun hg => trivial),(fun hg => trivial),(fun hg => trivial)⟩) ?_
    refine T_cond (bif (y1.1.f0 != (1 : Int)) then true else (y1.1.f1 != (1 : Int))) (by kernel_rfl) (fun hc => ?_) (fun hc => ?_)
    · have h := cond_tt hc h
      refine T_reg [] [2,3,4] [(2,oW2 []),(3,dI (0 : Int)),(4,dI (9 : Int))] [] 3 (by kernel_rfl) (trivial) ?_
      obtain hs := Option.some.inj h; subst hs
      refine T_ret fun a w hm => then_ret (T_return (fr' := [(2,.d (.sl 4 ([].map cS_FoldLeaf))),(3,dI (0 : Int)),(4,dI (9 : Int))]) [2,3,4] (by kernel_rfl) [.thaw 2,.keep [2,3,4]] (by kernel_rfl) (by kernel_rfl) (by kernel_rfl) (by show _ = _; kernel_rfl) (by exact trivial) a w hm)
    · have h := cond_ff hc h
      refine T_skip fun a w hm => then_norm (((?_ : T Try.prog e 45 _ _ _) a w hm))
      refine T_reg [] [1,5,7] [(7,dI (0 : Int))] [] 1 (by kernel_rfl) (trivial) ?_
      refine T_joinc h (fun (p : Int) => [(5,bx_fold_sheet y1.1),(7,dI p)]) (fun s h => ?_) (fun v1 h => ?_)
      · refine T_reg [(2,{ rw := some (dI (a0.f2.length : Int)) })] [1,5,7,30] [(30,dB (decide ((a0.f2.length : Int) > (0 : Int))))] [(2,True ∧ dI ((a0.f2.map cS_FoldStep).length : Int) = dI (a0.f2.length : Int))] 1 (by kernel_rfl) (len_ok cS_FoldStep) ?_
        refine T_cond (decide ((a0.f2.length : Int) > (0 : Int))) (by kernel_rfl) (fun hc => ?_) (fun hc => ?_)
        · have h := cond_tt hc h
          obtain ⟨hp1,h⟩ := chk_ok h
          obtain ⟨z1,hz1,h⟩ := lett_ok h
          obtain hs := Option.some.inj h; subst hs
          refine T_reg_end [(4,{ rw := some (dI (a0.f2.length : Int)) }),(6,{ cs := cS_FoldStep (a0.f2.getD (IntKind.i64.wrap ((a0.f2.length : Int) - (1 : Int))).toNat z_FoldStep) }),(8,{ rw := some (dI z1) })] [5,7] [(7,dI z1)] [(4,True ∧ dI ((a0.f2.map cS_FoldStep).length : Int) = dI (a0.f2.length : Int)),(1,0 ≤ (IntKind.i64.wrap ((a0.f2.length : Int) - (1 : Int))) ∧ (a0.f2.map cS_FoldStep)[(IntKind.i64.wrap ((a0.f2.length : Int) - (1 : Int))).toNat]? = some (cS_FoldStep (a0.f2.getD (IntKind.i64.wrap ((a0.f2.length : Int) - (1 : Int))).toNat z_FoldStep))),(1,(True) ∧ dI ((a0.f2.getD (IntKind.i64.wrap ((a0.f2.length : Int) - (1 : Int))).toNat z_FoldStep).f0) = dI z1)] 1 (by kernel_rfl) (⟨len_ok cS_FoldStep,idx_ok (d := z_FoldStep) cS_FoldStep hp1,⟨trivial,(by subst hz1; rfl)⟩⟩) fun a w hm => then_norm (hm.co (cs := [.keep [5,7]]) (by show _ = _; kernel_rfl))
        · have h := cond_ff hc h
          obtain hs := Option.some.inj h; subst hs
          refine T_skip fun a w hm => then_norm (hm.co (cs := [.keep [5,7]]) (by show _ = _; kernel_rfl))
      · skip
        obtain ⟨hp2,h⟩ := chk_ok h
        refine T_reg [(2,{ cs := (cL 4 cS_FoldLeaf) (y1.1.f2.getD (0 : Int).toNat []) })] [2,3,4] [(2,.d (.sl 4 ((y1.1.f2.getD (0 : Int).toNat []).map cS_FoldLeaf))),(3,dI v1),(4,dI (0 : Int))] [(2,0 ≤ (0 : Int) ∧ (y1.1.f2.map (cL 4 cS_FoldLeaf))[(0 : Int).toNat]? = some ((cL 4 cS_FoldLeaf) (y1.1.f2.getD (0 : Int).toNat [])))] 5 (by kernel_rfl) (idx_ok (d := []) (cL 4 cS_FoldLeaf) hp2) ?_
        obtain hs := Option.some.inj h; subst hs
        refine T_ret fun a w hm => T_return (fr' := [(2,.d (.sl 4 ((y1.1.f2.getD (0 : Int).toNat []).map cS_FoldLeaf))),(3,dI v1),(4,dI (0 : Int))]) [2,3,4] (by kernel_rfl) [.keep [2,3,4]] (by kernel_rfl) (by kernel_rfl) (by kernel_rfl) (by show _ = _; kernel_rfl) (by exact trivial) a w hm
theorem fold_Pages_c1_ok {F : Nat} {a0 : Bool} {a1 : Bool} {c2 : Int} {c3 : Int} {c4 : Bool} {c5 : Bool} {c6 : Int} {c7 : Int} {c8 : Int} {c9 : List S_FoldStep} {c10 : List S_FoldPage} {r : Int × Int × Bool × Bool × Int × Int × Int × (List S_FoldStep) × (List S_FoldPage)} (h : fold_Pages_c1 F a0 a1 c2 c3 c4 c5 c6 c7 c8 c9 c10 = some r) : ACall Try.prog 46 [.d (.v (.bool a0)),.d (.v (.bool a1)),.bp 1000000 0,.bp 1000001 0,.bp 1000002 0,.bp 1000003 0] [.box [.d (.v (.int .i64 c2)),.d (.v (.int .i64 c3)),.d (.v (.bool c4)),.d (.v (.bool c5))],.box [.d (.v (.int .i64 c6))],.box [.d (.v (.int .i64 c7)),.d (.v (.int .i64 c8)),.d (.sl 3 (c9.map cS_FoldStep))],.box [.own 70 4 (c10.map cS_FoldPage)]] (.tup []) [.box [.d (.v (.int .i64 r.1)),.d (.v (.int .i64 r.2.1)),.d (.v (.bool r.2.2.1)),.d (.v (.bool r.2.2.2.1))],.box [.d (.v (.int .i64 r.2.2.2.2.1))],.box [.d (.v (.int .i64 r.2.2.2.2.2.1)),.d (.v (.int .i64 r.2.2.2.2.2.2.1)),.d (.sl 3 (r.2.2.2.2.2.2.2.1.map cS_FoldStep))],.box [.own 70 4 (r.2.2.2.2.2.2.2.2.map cS_FoldPage)]] := by
  rw [fold_Pages_c1] at h
  refine ACall.intro (N := 33) Try.func46 rfl rfl rfl rfl rfl fun e => ?_
  refine T_reg [] [0,1,2,3,4,5,8,1000000,1000001,1000002,1000003] [(8,.box [dB a0,dI c2,dI c3,dI c6])] [] 9 (by kernel_rfl) (trivial) ?_
  refine T_joinc h (fun (p : Int) => [(1,dB a1),(3,.bp 1000001 0),(5,.bp 1000003 0),(8,.box [dB a0,dI p,dI c3,dI c6]),(1000000,.box [dI c2,dI c3,dB c4,dB c5]),(1000001,.box [dI c6]),(1000002,.box [dI c7,dI c8,.d (.sl 3 (c9.map cS_FoldStep))]),(1000003,.box [oW3 c10])]) (fun s h => ?_) (fun v1 h => ?_)
  · refine T_reg [] [1,2,3,4,5,8,16,1000000,1000001,1000002,1000003] [(16,dB a0)] [] 1 (by kernel_rfl) (trivial) ?_
    refine T_cond a0 (by kernel_rfl) (fun hc => ?_) (fun hc => ?_)
    · have h := cond_tt hc h
      obtain hs := Option.some.inj h; subst hs
      refine T_reg_end [] [1,3,5,8,1000000,1000001,1000002,1000003] [(8,.box [dB a0,dI (IntKind.i64.wrap ((IntKind.i64.wrap (c7 - (1 : Int))) - c2)),dI c3,dI c6])] [] 8 (by kernel_rfl) (trivial) fun a w hm => then_norm (hm.co (cs := [.keep [1,3,5,8,1000000,1000001,1000002,1000003]]) (by show _ = _; kernel_rfl))
    · have h := cond_ff hc h
      obtain hs := Option.some.inj h; subst hs
      refine T_skip fun a w hm => then_norm (hm.co (cs := [.keep [1,3,5,8,1000000,1000001,1000002,1000003]]) (by show _ = _; kernel_rfl))
  · skip
    refine T_joinc h (fun (p : Int) => [(5,.bp 1000003 0),(8,.box [dB a0,dI v1,dI c3,dI p]),(1000000,.box [dI c2,dI c3,dB c4,dB c5]),(1000001,.box [dI c6]),(1000002,.box [dI c7,dI c8,.d (.sl 3 (c9.map cS_FoldStep))]),(1000003,.box [oW3 c10])]) (fun s h => ?_) (fun v2 h => ?_)
    · refine T_reg [] [3,5,8,24,1000000,1000001,1000002,1000003] [(24,dB a1)] [] 1 (by kernel_rfl) (trivial) ?_
      refine T_cond a1 (by kernel_rfl) (fun hc => ?_) (fun hc => ?_)
      · have h := cond_tt hc h
        obtain hs := Option.some.inj h; subst hs
        refine T_reg_end [] [5,8,1000000,1000001,1000002,1000003] [(8,.box [dB a0,dI v1,dI c3,dI ((IntKind.i64.wrap (c6 + (2 : Int))).tmod (4 : Int))])] [(2,(4 : Int) ≠ 0)] 2 (by kernel_rfl) ((show (4 : Int) ≠ 0 by decide)) fun a w hm => then_norm (hm.co (cs := [.keep [5,8,1000000,1000001,1000002,1000003]]) (by show _ = _; kernel_rfl))
      · have h := cond_ff hc h
        obtain hs := Option.some.inj h; subst hs
        refine T_skip fun a w hm => then_norm (hm.co (cs := [.keep [5,8,1000000,1000001,1000002,1000003]]) (by show _ = _; kernel_rfl))
    · skip
      obtain ⟨hp1,h⟩ := chk_ok h
      obtain hs := Option.some.inj h; subst hs
      refine T_reg_end [(2,{ es := some (([(S_FoldPage.mk a0 v1 c3 v2)]).map cS_FoldPage) }),(3,{ es := some ((c10 ++ ([(S_FoldPage.mk a0 v1 c3 v2)])).map cS_FoldPage) })] [1000000,1000001,1000002,1000003] [(1000003,.box [.own 70 4 ((c10 ++ ([(S_FoldPage.mk a0 v1 c3 v2)])).map cS_FoldPage)])] [(2,(([(S_FoldPage.mk a0 v1 c3 v2)]).map cS_FoldPage) = (([(S_FoldPage.mk a0 v1 c3 v2)]).map cS_FoldPage)),(0,(c10.map cS_FoldPage).length + (([(S_FoldPage.mk a0 v1 c3 v2)]).map cS_FoldPage).length ≤ 4294967296 ∧ (c10.map cS_FoldPage) ++ (([(S_FoldPage.mk a0 v1 c3 v2)]).map cS_FoldPage) = ((c10 ++ ([(S_FoldPage.mk a0 v1 c3 v2)])).map cS_FoldPage))] 1 (by kernel_rfl) (⟨rfl,app_ok cS_FoldPage hp1⟩) fun a w hm => T_return (fr' := [(1000000,.box [dI c2,dI c3,dB c4,dB c5]),(1000001,.box [dI c6]),(1000002,.box [dI c7,dI c8,.d (.sl 3 (c9.map cS_FoldStep))]),(1000003,.box [.own 70 4 ((c10 ++ ([(S_FoldPage.mk a0 v1 c3 v2)])).map cS_FoldPage)])]) [] (by kernel_rfl) [.keep [1000000,1000001,1000002,1000003]] (by kernel_rfl) (by kernel_rfl) (by kernel_rfl) (by show _ = _; kernel_rfl) (by exact ⟨⟨by kernel_rfl,by kernel_rfl⟩,⟨⟨by kernel_rfl,by kernel_rfl⟩,⟨⟨by kernel_rfl,by kernel_rfl⟩,⟨⟨by kernel_rfl,by kernel_rfl⟩,trivial⟩⟩⟩⟩) a w hm
theorem fold_Pages_ok {F : Nat} {a0 : S_FoldScheme} {r : (List S_FoldPage) × Int} (h : fold_Pages F a0 = some r) : ACall Try.prog 24 [.agg (cS_FoldScheme a0)] [] (.tup [.d (.sl 4 (r.1.map cS_FoldPage)),.d (.v (.int .i64 r.2))]) [] := by
  rw [fold_Pages] at h
  refine ACall.intro (N := 55) Try.func24 rfl rfl rfl rfl rfl fun e => ?_
  refine T_reg [] [1] [(1,bx_FoldScheme a0)] [] 3 (by kernel_rfl) (trivial) ?_
  obtain ⟨y1,hy1,h⟩ := call_ok h
  refine T_reg [(1,{ res := .tup [.d (.sl 4 (y1.1.map cS_FoldLeaf)),dI y1.2.1,dI y1.2.2] })] [1,4,5,6] [(4,.d (.sl 4 (y1.1.map cS_FoldLeaf))),(5,dI y1.2.1),(6,dI y1.2.2)] [(1,ACall Try.prog 45 [.agg (cS_FoldScheme a0)] [] (.tup [.d (.sl 4 (y1.1.map cS_FoldLeaf)),dI y1.2.1,dI y1.2.2]) [])] 7 (by kernel_rfl) (fold_folded_ok hy1) ?_
  refine T_seqk ?_
  refine T_reg [] [1,4,5,6,20] [(20,dB (y1.2.2 != (0 : Int)))] [] 2 (by kernel_rfl) (trivial) ?_
  refine T_cond (y1.2.2 != (0 : Int)) (by kernel_rfl) (fun hc => ?_) (fun hc => ?_)
  · have h := cond_tt hc h
    refine T_reg [] [2,3] [(2,oW3 []),(3,dI y1.2.2)] [] 3 (by kernel_rfl) (trivial) ?_
    obtain hs := Option.some.inj h; subst hs
    refine T_ret fun a w hm => then_ret (T_return (fr' := [(2,.d (.sl 4 ([].map cS_FoldPage))),(3,dI y1.2.2)]) [2,3] (by kernel_rfl) [.thaw 2,.keep [2,3]] (by kernel_rfl) (by kernel_rfl) (by kernel_rfl) (by show _ = _; kernel_rfl) (by exact trivial) a w hm)
  · have h := cond_ff hc h
    refine T_skip fun a w hm => then_norm (((?_ : T Try.prog e 55 _ _ _) a w hm))
    obtain ⟨hp1,h⟩ := chk_ok h
    refine T_reg [(0,{ es := some (([(0 : Int),(2 : Int),(1 : Int),(3 : Int)]).map (cI .i64)) }),(3,{ cs := (cI .i64) (([(0 : Int),(2 : Int),(1 : Int),(3 : Int)]).getD y1.2.1.toNat 0) })] [1,4,7] [(7,.box [dI (([(0 : Int),(2 : Int),(1 : Int),(3 : Int)]).getD y1.2.1.toNat 0)])] [(0,(([(0 : Int),(2 : Int),(1 : Int),(3 : Int)]).map (cI .i64)) = (([(0 : Int),(2 : Int),(1 : Int),(3 : Int)]).map (cI .i64))),(1,0 ≤ y1.2.1 ∧ y1.2.1 < (([(0 : Int),(2 : Int),(1 : Int),(3 : Int)]).map (cI .i64)).length),(0,(([(0 : Int),(2 : Int),(1 : Int),(3 : Int)]).map (cI .i64))[y1.2.1.toNat]? = some ((cI .i64) (([(0 : Int),(2 : Int),(1 : Int),(3 : Int)]).getD y1.2.1.toNat 0)))] 2 (by kernel_rfl) (⟨rfl,own_idx (cI .i64) hp1,(idx_ok (d := 0) (cI .i64) hp1).2⟩) ?_
    refine T_reg [] [1,4,7,8] [(8,.box [oW3 []])] [] 1 (by kernel_rfl) (trivial) ?_
    refine T_seqk ?_
    refine T_reg [(1,{ rw := some (dI (y1.1.length : Int)) })] [1,7,8,26,27,28] [(26,.d (.sl 4 (y1.1.map cS_FoldLeaf))),(27,dI (y1.1.length : Int)),(28,dI (0 : Int))] [(1,True ∧ dI ((y1.1.map cS_FoldLeaf).length : Int) = dI (y1.1.length : Int))] 1 (by kernel_rfl) (len_ok cS_FoldLeaf) ?_
    refine T_joinct h (fun (p : (List S_FoldPage)) => [(8,.box [oW3 p])]) (fun s h => ?_) (fun v7 h => ?_)
    · refine T_co [.keep [1,7,8,26,27,28]] ((fun (p : Int × Int × (List S_FoldStep) × Int × (List S_FoldPage) × Int) => [(1,.box [dI p.1,dI p.2.1,.d (.sl 3 (p.2.2.1.map cS_FoldStep))]),(7,.box [dI p.2.2.2.1]),(8,.box [oW3 p.2.2.2.2.1]),(26,.d (.sl 4 (y1.1.map cS_FoldLeaf))),(27,dI (y1.1.length : Int)),(28,dI p.2.2.2.2.2)]) (a0.f0,a0.f1,a0.f2,(([(0 : Int),(2 : Int),(1 : Int),(3 : Int)]).getD y1.2.1.toNat 0),[],(0 : Int))) (by show _ = _; kernel_rfl) ?_
      refine T_block ?_
      refine T_loopF (ι := Int × Int × (List S_FoldStep) × Int × (List S_FoldPage) × Int) (fun (p : Int × Int × (List S_FoldStep) × Int × (List S_FoldPage) × Int) => [(1,.box [dI p.1,dI p.2.1,.d (.sl 3 (p.2.2.1.map cS_FoldStep))]),(7,.box [dI p.2.2.2.1]),(8,.box [oW3 p.2.2.2.2.1]),(26,.d (.sl 4 (y1.1.map cS_FoldLeaf))),(27,dI (y1.1.length : Int)),(28,dI p.2.2.2.2.2)]) (fun n p => fold_Pages_L0 F y1 n p.1 p.2.1 p.2.2.1 p.2.2.2.1 p.2.2.2.2.1 p.2.2.2.2.2 = some s) (fun i hh => by simp [fold_Pages_L0] at hh) (fun n p h => ?_) F (a0.f0,a0.f1,a0.f2,(([(0 : Int),(2 : Int),(1 : Int),(3 : Int)]).getD y1.2.1.toNat 0),[],(0 : Int)) h
      obtain ⟨v1,v2,v3,v4,v5,v6⟩ := p
      have h : fold_Pages_L0 F y1 (n + 1) v1 v2 v3 v4 v5 v6 = some s := h
      rw [fold_Pages_L0] at h
      refine T_reg [] [1,7,8,26,27,28,29] [(29,dB (decide (v6 < (y1.1.length : Int))))] [] 1 (by kernel_rfl) (trivial) ?_
      refine T_seqk ?_
      refine T_cond (decide (v6 < (y1.1.length : Int))) (by kernel_rfl) (fun hc => ?_) (fun hc => ?_)
      · have h := cond_tt hc h
        refine T_skip fun a w hm => then_norm (((?_ : T Try.prog e 55 _ _ _) a w hm))
        refine T_seqk ?_
        refine T_block ?_
        obtain ⟨hp2,h⟩ := chk_ok h
        refine T_reg [(0,{ cs := cS_FoldLeaf (y1.1.getD v6.toNat z_FoldLeaf) })] [1,7,8,10,26,27,28] [(10,.box [dI ((y1.1.getD v6.toNat z_FoldLeaf).f0),dI ((y1.1.getD v6.toNat z_FoldLeaf).f1),dB ((y1.1.getD v6.toNat z_FoldLeaf).f2),dB ((y1.1.getD v6.toNat z_FoldLeaf).f3)])] [(0,0 ≤ v6 ∧ (y1.1.map cS_FoldLeaf)[v6.toNat]? = some (cS_FoldLeaf (y1.1.getD v6.toNat z_FoldLeaf)))] 3 (by kernel_rfl) (idx_ok (d := z_FoldLeaf) cS_FoldLeaf hp2) ?_
        refine T_reg [] [1,7,8,10,11,26,27,28] [(11,.clo 46 [.bp 10 0,.bp 7 0,.bp 1 0,.bp 8 0])] [] 2 (by kernel_rfl) (trivial) ?_
        obtain ⟨z1,hz1,h⟩ := lett_ok h
        refine T_reg [(4,{ rw := some (dB z1) })] [1,7,8,10,11,12,26,27,28] [(12,dB z1)] [(4,(True) ∧ dB (!(((y1.1.getD v6.toNat z_FoldLeaf).f2) == ((y1.1.getD v6.toNat z_FoldLeaf).f3))) = dB z1)] 1 (by kernel_rfl) (⟨trivial,(by subst hz1; rfl)⟩) ?_
        obtain ⟨y2,hy2,h⟩ := call_ok h
        refine T_reg [(4,{ res := .tup [],vout := [.box [dI y2.1,dI y2.2.1,dB y2.2.2.1,dB y2.2.2.2.1],.box [dI y2.2.2.2.2.1],.box [dI y2.2.2.2.2.2.1,dI y2.2.2.2.2.2.2.1,.d (.sl 3 (y2.2.2.2.2.2.2.2.1.map cS_FoldStep))],.box [oW3 y2.2.2.2.2.2.2.2.2]],xs := [10,7,1,8] })] [1,7,8,10,11,12,26,27,28] [(1,.box [dI y2.2.2.2.2.2.1,dI y2.2.2.2.2.2.2.1,.d (.sl 3 (y2.2.2.2.2.2.2.2.1.map cS_FoldStep))]),(7,.box [dI y2.2.2.2.2.1]),(8,.box [oW3 y2.2.2.2.2.2.2.2.2]),(10,.box [dI y2.1,dI y2.2.1,dB y2.2.2.1,dB y2.2.2.2.1])] [(4,ACall Try.prog 46 [dB z1,dB ((y1.1.getD v6.toNat z_FoldLeaf).f3),.bp 1000000 0,.bp 1000001 0,.bp 1000002 0,.bp 1000003 0] [.box [dI ((y1.1.getD v6.toNat z_FoldLeaf).f0),dI ((y1.1.getD v6.toNat z_FoldLeaf).f1),dB ((y1.1.getD v6.toNat z_FoldLeaf).f2),dB ((y1.1.getD v6.toNat z_FoldLeaf).f3)],.box [dI v4],.box [dI v1,dI v2,.d (.sl 3 (v3.map cS_FoldStep))],.box [oW3 v5]] (.tup []) [.box [dI y2.1,dI y2.2.1,dB y2.2.2.1,dB y2.2.2.2.1],.box [dI y2.2.2.2.2.1],.box [dI y2.2.2.2.2.2.1,dI y2.2.2.2.2.2.2.1,.d (.sl 3 (y2.2.2.2.2.2.2.2.1.map cS_FoldStep))],.box [oW3 y2.2.2.2.2.2.2.2.2]])] 0 (by kernel_rfl) (fold_Pages_c1_ok hy2) ?_
        obtain ⟨y3,hy3,h⟩ := call_ok h
        refine T_reg_end [(9,{ res := .tup [],vout := [.box [dI y3.1,dI y3.2.1,dB y3.2.2.1,dB y3.2.2.2.1],.box [dI y3.2.2.2.2.1],.box [dI y3.2.2.2.2.2.1,dI y3.2.2.2.2.2.2.1,.d (.sl 3 (y3.2.2.2.2.2.2.2.1.map cS_FoldStep))],.box [oW3 y3.2.2.2.2.2.2.2.2]],xs := [10,7,1,8] })] [1,7,8,26,27,28] [(1,.box [dI y3.2.2.2.2.2.1,dI y3.2.2.2.2.2.2.1,.d (.sl 3 (y3.2.2.2.2.2.2.2.1.map cS_FoldStep))]),(7,.box [dI y3.2.2.2.2.1]),(8,.box [oW3 y3.2.2.2.2.2.2.2.2])] [(6,(2 : Int) ≠ 0),(2,ACall Try.prog 46 [dB (!z1),dB (!(y2.2.2.2.1 == ((y2.2.2.2.2.1.tmod (2 : Int)) == (1 : Int)))),.bp 1000000 0,.bp 1000001 0,.bp 1000002 0,.bp 1000003 0] [.box [dI y2.1,dI y2.2.1,dB y2.2.2.1,dB y2.2.2.2.1],.box [dI y2.2.2.2.2.1],.box [dI y2.2.2.2.2.2.1,dI y2.2.2.2.2.2.2.1,.d (.sl 3 (y2.2.2.2.2.2.2.2.1.map cS_FoldStep))],.box [oW3 y2.2.2.2.2.2.2.2.2]] (.tup []) [.box [dI y3.1,dI y3.2.1,dB y3.2.2.1,dB y3.2.2.2.1],.box [dI y3.2.2.2.2.1],.box [dI y3.2.2.2.2.2.1,dI y3.2.2.2.2.2.2.1,.d (.sl 3 (y3.2.2.2.2.2.2.2.1.map cS_FoldStep))],.box [oW3 y3.2.2.2.2.2.2.2.2]])] 0 (by kernel_rfl) (⟨(show (2 : Int) ≠ 0 by decide),fold_Pages_c1_ok hy3⟩) fun a w hm => inBlock_norm (then_norm (((?_ : T Try.prog e 55 _ _ _) a w hm)))
        refine T_reg_end [] [1,7,8,26,27,28] [(28,dI (IntKind.i64.wrap (v6 + (1 : Int))))] [] 2 (by kernel_rfl) (trivial) fun a w hm => then_norm (⟨(y3.2.2.2.2.2.1,y3.2.2.2.2.2.2.1,y3.2.2.2.2.2.2.2.1,y3.2.2.2.2.1,y3.2.2.2.2.2.2.2.2,IntKind.i64.wrap (v6 + (1 : Int))),h,hm.co (cs := [.keep [1,7,8,26,27,28]]) (by show _ = _; kernel_rfl)⟩)
      · have h := cond_ff hc h
        obtain hs := Option.some.inj h; subst hs
        refine T_exit fun a w hm => then_exit (then_exit (inBlock_exit (then_norm (hm.co (cs := [.keep [8]]) (by show _ = _; kernel_rfl)))))
    · skip
      refine fun a w hm => then_norm (((?_ : T Try.prog e 55 _ _ _) a w hm))
      refine T_reg [] [2,3,8] [(2,.vw (8,1)),(3,dI (0 : Int))] [] 3 (by kernel_rfl) (trivial) ?_
      obtain hs := Option.some.inj h; subst hs
      refine T_ret fun a w hm => T_return (fr' := [(2,.d (.sl 4 (v7.map cS_FoldPage))),(3,dI (0 : Int))]) [2,3] (by kernel_rfl) [.thaw 2,.keep [2,3]] (by kernel_rfl) (by kernel_rfl) (by kernel_rfl) (by show _ = _; kernel_rfl) (by exact trivial) a w hm
theorem impose_leaf_ok {F : Nat} {a0 : S_ImposeLayout} {r : Int × Int} (h : impose_leaf F a0 = some r) : ACall Try.prog 55 [.agg (cS_ImposeLayout a0)] [] (.tup [.d (.v (.int .i64 r.1)),.d (.v (.int .i64 r.2))]) [] := by
  rw [impose_leaf] at h
  refine ACall.intro (N := 38) Try.func55 rfl rfl rfl rfl rfl fun e => ?_
  refine T_reg [] [1] [(1,bx_ImposeLayout a0)] [] 3 (by kernel_rfl) (trivial) ?_
  refine T_draw mixed [] [1,4,5] [] [(1,bx_ImposeLayout a0),(4,dI (IntKind.i64.wrap ((IntKind.i64.wrap (a0.f1 + a0.f4)) + a0.f5))),(5,dI (IntKind.i64.wrap (a0.f2 + (IntKind.i64.wrap ((2 : Int) * a0.f3)))))] [] 16 (by kernel_rfl) (trivial) ?_
  refine T_seqk ?_
  obtain ⟨y1,hy1,h⟩ := call_ok h
  refine T_reg [(2,{ res := .tup [.d (.sl 4 (y1.1.map cS_FoldPage)),dI y1.2] })] [4,5,6] [(6,.d (.sl 4 (y1.1.map cS_FoldPage)))] [(2,ACall Try.prog 24 [.agg (cS_FoldScheme a0.f0)] [] (.tup [.d (.sl 4 (y1.1.map cS_FoldPage)),dI y1.2]) [])] 5 (by kernel_rfl) (fold_Pages_ok hy1) ?_
  obtain ⟨hp1,h⟩ := chk_ok h
  refine T_reg [(1,{ cs := cS_FoldPage (y1.1.getD (0 : Int).toNat z_FoldPage) })] [4,5,33] [(33,dB ((((y1.1.getD (0 : Int).toNat z_FoldPage).f3).tmod (2 : Int)) == (1 : Int)))] [(1,0 ≤ (0 : Int) ∧ (y1.1.map cS_FoldPage)[(0 : Int).toNat]? = some (cS_FoldPage (y1.1.getD (0 : Int).toNat z_FoldPage))),(2,(2 : Int) ≠ 0)] 1 (by kernel_rfl) (⟨idx_ok (d := z_FoldPage) cS_FoldPage hp1,(show (2 : Int) ≠ 0 by decide)⟩) ?_
  refine T_cond ((((y1.1.getD (0 : Int).toNat z_FoldPage).f3).tmod (2 : Int)) == (1 : Int)) (by kernel_rfl) (fun hc => ?_) (fun hc => ?_)
  · have h := cond_tt hc h
    refine T_reg [] [2,3] [(2,dI (IntKind.i64.wrap (a0.f2 + (IntKind.i64.wrap ((2 : Int) * a0.f3))))),(3,dI (IntKind.i64.wrap ((IntKind.i64.wrap (a0.f1 + a0.f4)) + a0.f5)))] [] 4 (by kernel_rfl) (trivial) ?_
    obtain hs := Option.some.inj h; subst hs
    refine T_ret fun a w hm => then_ret (T_return (fr' := [(2,dI (IntKind.i64.wrap (a0.f2 + (IntKind.i64.wrap ((2 : Int) * a0.f3))))),(3,dI (IntKind.i64.wrap ((IntKind.i64.wrap (a0.f1 + a0.f4)) + a0.f5)))]) [2,3] (by kernel_rfl) [.keep [2,3]] (by kernel_rfl) (by kernel_rfl) (by kernel_rfl) (by show _ = _; kernel_rfl) (by exact trivial) a w hm)
  · have h := cond_ff hc h
    refine T_skip fun a w hm => then_norm (((?_ : T Try.prog e 38 _ _ _) a w hm))
    refine T_reg [] [2,3] [(2,dI (IntKind.i64.wrap ((IntKind.i64.wrap (a0.f1 + a0.f4)) + a0.f5))),(3,dI (IntKind.i64.wrap (a0.f2 + (IntKind.i64.wrap ((2 : Int) * a0.f3)))))] [] 4 (by kernel_rfl) (trivial) ?_
    obtain hs := Option.some.inj h; subst hs
    refine T_ret fun a w hm => T_return (fr' := [(2,dI (IntKind.i64.wrap ((IntKind.i64.wrap (a0.f1 + a0.f4)) + a0.f5))),(3,dI (IntKind.i64.wrap (a0.f2 + (IntKind.i64.wrap ((2 : Int) * a0.f3)))))]) [2,3] (by kernel_rfl) [.keep [2,3]] (by kernel_rfl) (by kernel_rfl) (by kernel_rfl) (by show _ = _; kernel_rfl) (by exact trivial) a w hm
theorem impose_single_ok {F : Nat} {a0 : S_ImposeLayout} {r : Int × Int} (h : impose_single F a0 = some r) : ACall Try.prog 56 [.agg (cS_ImposeLayout a0)] [] (.tup [.d (.v (.int .i64 r.1)),.d (.v (.int .i64 r.2))]) [] := by
  rw [impose_single] at h
  refine ACall.intro (N := 29) Try.func56 rfl rfl rfl rfl rfl fun e => ?_
  refine T_reg [] [1] [(1,bx_ImposeLayout a0)] [] 3 (by kernel_rfl) (trivial) ?_
  obtain ⟨y1,hy1,h⟩ := call_ok h
  refine T_reg [(1,{ res := .tup [dI y1.1,dI y1.2] })] [1,4,5] [(4,dI y1.1),(5,dI y1.2)] [(1,ACall Try.prog 55 [.agg (cS_ImposeLayout a0)] [] (.tup [dI y1.1,dI y1.2]) [])] 5 (by kernel_rfl) (impose_leaf_ok hy1) ?_
  refine T_draw mixed [] [2,3] [] [(2,dI (IntKind.i64.wrap ((IntKind.i64.wrap ((2 : Int) * a0.f6)) + (IntKind.i64.wrap (a0.f0.f0 * y1.1))))),(3,dI (IntKind.i64.wrap ((IntKind.i64.wrap ((2 : Int) * a0.f6)) + (IntKind.i64.wrap (a0.f0.f1 * y1.2)))))] [] 20 (by kernel_rfl) (trivial) ?_
  obtain hs := Option.some.inj h; subst hs
  refine T_ret fun a w hm => T_return (fr' := [(2,dI (IntKind.i64.wrap ((IntKind.i64.wrap ((2 : Int) * a0.f6)) + (IntKind.i64.wrap (a0.f0.f0 * y1.1))))),(3,dI (IntKind.i64.wrap ((IntKind.i64.wrap ((2 : Int) * a0.f6)) + (IntKind.i64.wrap (a0.f0.f1 * y1.2)))))]) [2,3] (by kernel_rfl) [.keep [2,3]] (by kernel_rfl) (by kernel_rfl) (by kernel_rfl) (by show _ = _; kernel_rfl) (by exact trivial) a w hm
theorem impose_size_ok {F : Nat} {a0 : S_ImposeLayout} {r : Int × Int} (h : impose_size F a0 = some r) : ACall Try.prog 44 [.agg (cS_ImposeLayout a0)] [] (.tup [.d (.v (.int .i64 r.1)),.d (.v (.int .i64 r.2))]) [] := by
  rw [impose_size] at h
  refine ACall.intro (N := 23) Try.func44 rfl rfl rfl rfl rfl fun e => ?_
  refine T_reg [] [1] [(1,bx_ImposeLayout a0)] [] 3 (by kernel_rfl) (trivial) ?_
  obtain ⟨y1,hy1,h⟩ := call_ok h
  refine T_reg [(1,{ res := .tup [dI y1.1,dI y1.2] })] [1,4,5] [(4,dI y1.1),(5,dI y1.2)] [(1,ACall Try.prog 56 [.agg (cS_ImposeLayout a0)] [] (.tup [dI y1.1,dI y1.2]) [])] 5 (by kernel_rfl) (impose_single_ok hy1) ?_
  refine T_joinc h (fun (p : Int × Int) => [(4,dI p.1),(5,dI p.2)]) (fun s h => ?_) (fun s h => ?_)
  · refine T_reg [] [4,5,12] [(12,dI a0.f8)] [] 2 (by kernel_rfl) (trivial) ?_
    refine T_block ?_
    refine T_reg [] [4,5,12,13] [(13,dB (a0.f8 == (1 : Int)))] [] 2 (by kernel_rfl) (trivial) ?_
    refine T_cond (a0.f8 == (1 : Int)) (by kernel_rfl) (fun hc => ?_) (fun hc => ?_)
    · have h := cond_tt hc h
      obtain hs := Option.some.inj h; subst hs
      refine T_reg_end [] [4,5] [(4,dI (IntKind.i64.wrap (y1.1 * (2 : Int))))] [] 3 (by kernel_rfl) (trivial) fun a w hm => inBlock_norm (then_norm (hm.co (cs := [.keep [4,5]]) (by show _ = _; kernel_rfl)))
    · have h := cond_ff hc h
      refine T_reg [] [4,5,17] [(17,dB (a0.f8 == (2 : Int)))] [] 2 (by kernel_rfl) (trivial) ?_
      refine T_cond (a0.f8 == (2 : Int)) (by kernel_rfl) (fun hc => ?_) (fun hc => ?_)
      · have h := cond_tt hc h
        obtain hs := Option.some.inj h; subst hs
        refine T_reg_end [] [4,5] [(5,dI (IntKind.i64.wrap (y1.2 * (2 : Int))))] [] 3 (by kernel_rfl) (trivial) fun a w hm => inBlock_norm (then_norm (hm.co (cs := [.keep [4,5]]) (by show _ = _; kernel_rfl)))
      · have h := cond_ff hc h
        obtain hs := Option.some.inj h; subst hs
        refine T_skip fun a w hm => inBlock_norm (then_norm (hm.co (cs := [.keep [4,5]]) (by show _ = _; kernel_rfl)))
  · obtain ⟨v1,v2⟩ := s
    try dsimp only at h
    refine T_reg [] [2,3] [(2,dI v1),(3,dI v2)] [] 4 (by kernel_rfl) (trivial) ?_
    obtain hs := Option.some.inj h; subst hs
    refine T_ret fun a w hm => T_return (fr' := [(2,dI v1),(3,dI v2)]) [2,3] (by kernel_rfl) [.keep [2,3]] (by kernel_rfl) (by kernel_rfl) (by kernel_rfl) (by show _ = _; kernel_rfl) (by exact trivial) a w hm
theorem impose_Check_ok {F : Nat} {a0 : S_ImposeLayout} {r : Int} (h : impose_Check F a0 = some r) : ACall Try.prog 22 [.agg (cS_ImposeLayout a0)] [] (.d (.v (.int .i64 r))) [] := by
  rw [impose_Check] at h
  refine ACall.intro (N := 104) Try.func22 rfl rfl rfl rfl rfl fun e => ?_
  refine T_reg [] [1] [(1,bx_ImposeLayout a0)] [] 2 (by kernel_rfl) (trivial) ?_
  refine T_seqk ?_
  obtain ⟨y1,hy1,h⟩ := call_ok h
  refine T_reg [(2,{ res := dI y1 })] [1,3] [(3,dI y1)] [(2,ACall Try.prog 43 [.agg (cS_FoldScheme a0.f0)] [] (dI y1) [])] 1 (by kernel_rfl) (fold_Check_ok hy1) ?_
  refine T_reg [] [1,3,14] [(14,dB (y1 != (0 : Int)))] [] 2 (by kernel_rfl) (trivial) ?_
  refine T_cond (y1 != (0 : Int)) (by kernel_rfl) (fun hc => ?_) (fun hc => ?_)
  · have h := cond_tt hc h
    refine T_reg [] [2] [(2,dI y1)] [] 2 (by kernel_rfl) (trivial) ?_
    obtain hs := Option.some.inj h; subst hs
    refine T_ret fun a w hm => then_ret (T_return (fr' := [(2,dI y1)]) [2] (by kernel_rfl) [.keep [2]] (by kernel_rfl) (by kernel_rfl) (by kernel_rfl) (by show _ = _; kernel_rfl) (by exact trivial) a w hm)
  · have h := cond_ff hc h
    refine T_skip fun a w hm => then_norm (((?_ : T Try.prog e 104 _ _ _) a w hm))
    refine T_seqk ?_
    obtain ⟨y2,hy2,h⟩ := call_ok h
    refine T_reg [(2,{ res := .tup [.d (.sl 4 (y2.1.map cS_FoldPage)),dI y2.2] })] [1,5] [(5,dI y2.2)] [(2,ACall Try.prog 24 [.agg (cS_FoldScheme a0.f0)] [] (.tup [.d (.sl 4 (y2.1.map cS_FoldPage)),dI y2.2]) [])] 5 (by kernel_rfl) (fold_Pages_ok hy2) ?_
    refine T_reg [] [1,5,23] [(23,dB (y2.2 != (0 : Int)))] [] 2 (by kernel_rfl) (trivial) ?_
    refine T_cond (y2.2 != (0 : Int)) (by kernel_rfl) (fun hc => ?_) (fun hc => ?_)
    · have h := cond_tt hc h
      refine T_reg [] [2] [(2,dI y2.2)] [] 2 (by kernel_rfl) (trivial) ?_
      obtain hs := Option.some.inj h; subst hs
      refine T_ret fun a w hm => then_ret (T_return (fr' := [(2,dI y2.2)]) [2] (by kernel_rfl) [.keep [2]] (by kernel_rfl) (by kernel_rfl) (by kernel_rfl) (by show _ = _; kernel_rfl) (by exact trivial) a w hm)
    · have h := cond_ff hc h
      refine T_skip fun a w hm => then_norm (((?_ : T Try.prog e 104 _ _ _) a w hm))
      refine T_seqk ?_
      obtain ⟨z2,hz1,h⟩ := lett_ok h
      refine T_reg [(12,{ rw := some (dB z2) })] [1,42] [(42,dB (bif z2 then true else (decide (a0.f2 > (256 : Int)))))] [(4,((((decide (a0.f1 < (1 : Int))) == false) && true) = true → True)),(0,((((decide (a0.f1 < (1 : Int))) == false) && true) = true → True)),(0,((((decide (a0.f1 < (1 : Int))) == false) && true) = true → True)),(2,((((bif (decide (a0.f1 < (1 : Int))) then true else (decide (a0.f1 > (256 : Int)))) == false) && true) = true → True)),(0,((((bif (decide (a0.f1 < (1 : Int))) then true else (decide (a0.f1 > (256 : Int)))) == false) && true) = true → True)),(0,((((bif (decide (a0.f1 < (1 : Int))) then true else (decide (a0.f1 > (256 : Int)))) == false) && true) = true → True)),(0,(True) ∧ dB (bif (bif (decide (a0.f1 < (1 : Int))) then true else (decide (a0.f1 > (256 : Int)))) then true else (decide (a0.f2 < (1 : Int)))) = dB z2),(1,(((z2 == false) && true) = true → True)),(0,(((z2 == false) && true) = true → True)),(0,(((z2 == false) && true) = true → True))] 1 (by kernel_rfl) (⟨(fun hg => trivial),(fun hg => trivial),(fun hg => trivial),(fun hg => trivial),(fun hg => trivial),(fun hg => trivial),⟨trivial,(by subst hz1; rfl)⟩,(fun hg => trivial),(fun hg => trivial),(fun hg => trivial)⟩) ?_
      refine T_cond (bif z2 then true else (decide (a0.f2 > (256 : Int)))) (by kernel_rfl) (fun hc => ?_) (fun hc => ?_)
      · have h := cond_tt hc h
        refine T_reg [] [2] [(2,dI (3 : Int))] [] 1 (by kernel_rfl) (trivial) ?_
        obtain hs := Option.some.inj h; subst hs
        refine T_ret fun a w hm => then_ret (T_return (fr' := [(2,dI (3 : Int))]) [2] (by kernel_rfl) [.keep [2]] (by kernel_rfl) (by kernel_rfl) (by kernel_rfl) (by show _ = _; kernel_rfl) (by exact trivial) a w hm)
      · have h := cond_ff hc h
        refine T_skip fun a w hm => then_norm (((?_ : T Try.prog e 104 _ _ _) a w hm))
        refine T_seqk ?_
        refine T_reg [] [1,51,52] [(51,.agg (cS_arr4_Int (S_arr4_Int.mk a0.f3 a0.f4 a0.f5 a0.f6))),(52,dI (0 : Int))] [] 10 (by kernel_rfl) (trivial) ?_
        refine T_joinEt h (fun (p : Unit) => [(1,bx_ImposeLayout a0)]) (fun s h hk1 => ?_) (fun s h => ?_)
        · refine T_co [.keep [1,51,52]] ((fun (p : Int) => [(1,bx_ImposeLayout a0),(51,.agg (cS_arr4_Int (S_arr4_Int.mk a0.f3 a0.f4 a0.f5 a0.f6))),(52,dI p)]) (0 : Int)) (by show _ = _; kernel_rfl) ?_
          refine T_block ?_
          refine T_loopF (ι := Int) (fun (p : Int) => [(1,bx_ImposeLayout a0),(51,.agg (cS_arr4_Int (S_arr4_Int.mk a0.f3 a0.f4 a0.f5 a0.f6))),(52,dI p)]) (fun n p => impose_Check_L0 F a0 n p = some s) (fun i hh => by simp [impose_Check_L0] at hh) (fun n v1 h => ?_) F (0 : Int) h
          have h : impose_Check_L0 F a0 (n + 1) v1 = some s := h
          rw [impose_Check_L0] at h
          refine T_reg [] [1,51,52,53] [(53,dB (decide (v1 < (4 : Int))))] [] 1 (by kernel_rfl) (trivial) ?_
          refine T_seqk ?_
          refine T_cond (decide (v1 < (4 : Int))) (by kernel_rfl) (fun hc => ?_) (fun hc => ?_)
          · have h := cond_tt hc h
            refine T_skip fun a w hm => then_norm (((?_ : T Try.prog e 104 _ _ _) a w hm))
            refine T_seqk ?_
            refine T_block ?_
            obtain ⟨hp1,h⟩ := chk_ok h
            refine T_reg [(0,{ cs := (cI .i64) ([a0.f3,a0.f4,a0.f5,a0.f6].getD v1.toNat 0) })] [1,7,51,52] [(7,dI ([a0.f3,a0.f4,a0.f5,a0.f6].getD v1.toNat 0))] [(0,(0 ≤ v1 ∧ v1 < 4) ∧ (cI .i64) ([a0.f3,a0.f4,a0.f5,a0.f6].getD v1.toNat 0) = ((cS_arr4_Int (S_arr4_Int.mk a0.f3 a0.f4 a0.f5 a0.f6)).drop (v1.toNat * 1)).take 1)] 1 (by kernel_rfl) (⟨hp1,arr_ok (d := 0) (cI .i64) 1 4 [a0.f3,a0.f4,a0.f5,a0.f6] rfl (fun _ => rfl) hp1 rfl⟩) ?_
            obtain ⟨z1,hz2,h⟩ := lett_ok h
            refine T_reg [(5,{ rw := some (dB z1) })] [1,51,52,60] [(60,dB z1)] [(3,((((decide (([a0.f3,a0.f4,a0.f5,a0.f6].getD v1.toNat 0) < (0 : Int))) == false) && true) = true → True)),(0,((((decide (([a0.f3,a0.f4,a0.f5,a0.f6].getD v1.toNat 0) < (0 : Int))) == false) && true) = true → True)),(0,(True) ∧ dB (bif (decide (([a0.f3,a0.f4,a0.f5,a0.f6].getD v1.toNat 0) < (0 : Int))) then true else (decide (([a0.f3,a0.f4,a0.f5,a0.f6].getD v1.toNat 0) > (64 : Int)))) = dB z1)] 0 (by kernel_rfl) (⟨(fun hg => trivial),(fun hg => trivial),⟨trivial,(by subst hz2; rfl)⟩⟩) ?_
            refine T_cond z1 (by kernel_rfl) (fun hc => ?_) (fun hc => ?_)
            · have h := cond_tt hc h
              refine T_reg [] [2] [(2,dI (3 : Int))] [] 1 (by kernel_rfl) (trivial) ?_
              obtain hs := Option.some.inj h; subst hs
              have h := callE_esc hk1
              obtain hs := Option.some.inj h; subst hs
              refine T_ret fun a w hm => inBlock_ret (then_ret (then_ret (inBlock_ret (then_ret (then_ret (T_return (fr' := [(2,dI (3 : Int))]) [2] (by kernel_rfl) [.keep [2]] (by kernel_rfl) (by kernel_rfl) (by kernel_rfl) (by show _ = _; kernel_rfl) (by exact trivial) a w hm))))))
            · have h := cond_ff hc h
              refine T_skip fun a w hm => inBlock_norm (then_norm (((?_ : T Try.prog e 104 _ _ _) a w hm)))
              refine T_reg_end [] [1,51,52] [(52,dI (IntKind.i64.wrap (v1 + (1 : Int))))] [] 2 (by kernel_rfl) (trivial) fun a w hm => then_norm (⟨IntKind.i64.wrap (v1 + (1 : Int)),h,hm.co (cs := [.keep [1,51,52]]) (by show _ = _; kernel_rfl)⟩)
          · have h := cond_ff hc h
            obtain hs := Option.some.inj h; subst hs
            refine T_exit fun a w hm => then_exit (then_exit (inBlock_exit (then_norm (⟨_,rfl,hm.co (cs := [.keep [1]]) (by show _ = _; kernel_rfl)⟩))))
        · skip
          refine fun a w hm => then_norm (((?_ : T Try.prog e 104 _ _ _) a w hm))
          refine T_seqk ?_
          refine T_reg [] [1,69] [(69,dB (bif (decide (a0.f7 < (0 : Int))) then true else (decide (a0.f7 > (8 : Int)))))] [(4,((((decide (a0.f7 < (0 : Int))) == false) && true) = true → True)),(0,((((decide (a0.f7 < (0 : Int))) == false) && true) = true → True)),(0,((((decide (a0.f7 < (0 : Int))) == false) && true) = true → True))] 1 (by kernel_rfl) (⟨(fun hg => trivial),(fun hg => trivial),(fun hg => trivial)⟩) ?_
          refine T_cond (bif (decide (a0.f7 < (0 : Int))) then true else (decide (a0.f7 > (8 : Int)))) (by kernel_rfl) (fun hc => ?_) (fun hc => ?_)
          · have h := cond_tt hc h
            refine T_reg [] [2] [(2,dI (3 : Int))] [] 1 (by kernel_rfl) (trivial) ?_
            obtain hs := Option.some.inj h; subst hs
            refine T_ret fun a w hm => then_ret (T_return (fr' := [(2,dI (3 : Int))]) [2] (by kernel_rfl) [.keep [2]] (by kernel_rfl) (by kernel_rfl) (by kernel_rfl) (by show _ = _; kernel_rfl) (by exact trivial) a w hm)
          · have h := cond_ff hc h
            refine T_skip fun a w hm => then_norm (((?_ : T Try.prog e 104 _ _ _) a w hm))
            refine T_seqk ?_
            refine T_reg [] [1,77] [(77,dB (bif (decide (a0.f8 < (0 : Int))) then true else (decide (a0.f8 > (2 : Int)))))] [(4,((((decide (a0.f8 < (0 : Int))) == false) && true) = true → True)),(0,((((decide (a0.f8 < (0 : Int))) == false) && true) = true → True)),(0,((((decide (a0.f8 < (0 : Int))) == false) && true) = true → True))] 1 (by kernel_rfl) (⟨(fun hg => trivial),(fun hg => trivial),(fun hg => trivial)⟩) ?_
            refine T_cond (bif (decide (a0.f8 < (0 : Int))) then true else (decide (a0.f8 > (2 : Int)))) (by kernel_rfl) (fun hc => ?_) (fun hc => ?_)
            · have h := cond_tt hc h
              refine T_reg [] [2] [(2,dI (14 : Int))] [] 1 (by kernel_rfl) (trivial) ?_
              obtain hs := Option.some.inj h; subst hs
              refine T_ret fun a w hm => then_ret (T_return (fr' := [(2,dI (14 : Int))]) [2] (by kernel_rfl) [.keep [2]] (by kernel_rfl) (by kernel_rfl) (by kernel_rfl) (by show _ = _; kernel_rfl) (by exact trivial) a w hm)
            · have h := cond_ff hc h
              refine T_skip fun a w hm => then_norm (((?_ : T Try.prog e 104 _ _ _) a w hm))
              refine T_seqk ?_
              obtain ⟨z3,hz3,h⟩ := lett_ok h
              refine T_reg [(8,{ rw := some (dI z3) })] [1,92] [(92,dB (decide ((IntKind.i64.wrap (z3 * a0.f7)) > a0.f5)))] [(8,((2 : Int) ≠ 0) ∧ dI (IntKind.i64.wrap ((IntKind.i64.wrap ((IntKind.i64.wrap (a0.f0.f0 * a0.f0.f1)) - (1 : Int))).tdiv (2 : Int))) = dI z3)] 6 (by kernel_rfl) (⟨(show (2 : Int) ≠ 0 by decide),(by subst hz3; rfl)⟩) ?_
              refine T_cond (decide ((IntKind.i64.wrap (z3 * a0.f7)) > a0.f5)) (by kernel_rfl) (fun hc => ?_) (fun hc => ?_)
              · have h := cond_tt hc h
                refine T_reg [] [2] [(2,dI (19 : Int))] [] 1 (by kernel_rfl) (trivial) ?_
                obtain hs := Option.some.inj h; subst hs
                refine T_ret fun a w hm => then_ret (T_return (fr' := [(2,dI (19 : Int))]) [2] (by kernel_rfl) [.keep [2]] (by kernel_rfl) (by kernel_rfl) (by kernel_rfl) (by show _ = _; kernel_rfl) (by exact trivial) a w hm)
              · have h := cond_ff hc h
                refine T_skip fun a w hm => then_norm (((?_ : T Try.prog e 104 _ _ _) a w hm))
                refine T_seqk ?_
                obtain ⟨y3,hy3,h⟩ := call_ok h
                refine T_reg [(1,{ res := .tup [dI y3.1,dI y3.2] })] [8,9] [(8,dI y3.1),(9,dI y3.2)] [(1,ACall Try.prog 44 [.agg (cS_ImposeLayout a0)] [] (.tup [dI y3.1,dI y3.2]) [])] 5 (by kernel_rfl) (impose_size_ok hy3) ?_
                refine T_reg [] [103] [(103,dB (bif (decide (y3.1 > (1024 : Int))) then true else (decide (y3.2 > (1024 : Int)))))] [(3,((((decide (y3.1 > (1024 : Int))) == false) && true) = true → True)),(0,((((decide (y3.1 > (1024 : Int))) == false) && true) = true → True))] 1 (by kernel_rfl) (⟨(fun hg => trivial),(fun hg => trivial)⟩) ?_
                refine T_cond (bif (decide (y3.1 > (1024 : Int))) then true else (decide (y3.2 > (1024 : Int)))) (by kernel_rfl) (fun hc => ?_) (fun hc => ?_)
                · have h := cond_tt hc h
                  refine T_reg [] [2] [(2,dI (2 : Int))] [] 1 (by kernel_rfl) (trivial) ?_
                  obtain hs := Option.some.inj h; subst hs
                  refine T_ret fun a w hm => then_ret (T_return (fr' := [(2,dI (2 : Int))]) [2] (by kernel_rfl) [.keep [2]] (by kernel_rfl) (by kernel_rfl) (by kernel_rfl) (by show _ = _; kernel_rfl) (by exact trivial) a w hm)
                · have h := cond_ff hc h
                  refine T_skip fun a w hm => then_norm (((?_ : T Try.prog e 104 _ _ _) a w hm))
                  refine T_reg [] [2] [(2,dI (0 : Int))] [] 1 (by kernel_rfl) (trivial) ?_
                  obtain hs := Option.some.inj h; subst hs
                  refine T_ret fun a w hm => T_return (fr' := [(2,dI (0 : Int))]) [2] (by kernel_rfl) [.keep [2]] (by kernel_rfl) (by kernel_rfl) (by kernel_rfl) (by show _ = _; kernel_rfl) (by exact trivial) a w hm
theorem impose_depth_ok {F : Nat} {a0 : Int} {a1 : Int} {r : Int} (h : impose_depth F a0 a1 = some r) : ACall Try.prog 66 [.d (.v (.int .i64 a0)),.d (.v (.int .i64 a1))] [] (.d (.v (.int .i64 r))) [] := by
  rw [impose_depth] at h
  refine ACall.intro (N := 11) Try.func66 rfl rfl rfl rfl rfl fun e => ?_
  refine T_reg [] [0,1] [] [] 1 (by kernel_rfl) (trivial) ?_
  obtain ⟨z1,hz1,h⟩ := lett_ok h
  refine T_reg [(5,{ rw := some (dI z1) })] [4] [(4,dI z1)] [(5,(True) ∧ dI (if (IntKind.i64.wrap ((IntKind.i64.wrap (a1 - (1 : Int))) - a0)) < a0 then (IntKind.i64.wrap ((IntKind.i64.wrap (a1 - (1 : Int))) - a0)) else a0) = dI z1)] 1 (by kernel_rfl) (⟨trivial,(by subst hz1; rfl)⟩) ?_
  obtain hs := Option.some.inj h; subst hs
  refine T_ret fun a w hm => T_return (fr' := [(4,dI z1)]) [4] (by kernel_rfl) [.keep [4]] (by kernel_rfl) (by kernel_rfl) (by kernel_rfl) (by show _ = _; kernel_rfl) (by exact trivial) a w hm
theorem impose_box_turned_ok {F : Nat} {a0 : S_impose_box} {a1 : Int} {r : S_impose_box} (h : impose_box_turned F a0 a1 = some r) : ACall Try.prog 48 [.agg (cS_impose_box a0),.d (.v (.int .i64 a1))] [] (.agg (cS_impose_box r)) [] := by
  rw [impose_box_turned] at h
  refine ACall.intro (N := 29) Try.func48 rfl rfl rfl rfl rfl fun e => ?_
  refine T_reg [] [1,2,4] [(2,bx_impose_box a0),(4,.box [dI 0,dI 0,dI 0,dI 0,dI 0,dI 0])] [] 2 (by kernel_rfl) (trivial) ?_
  refine T_joinc h (fun (p : Int × Int × Int × Int × Int × Int) => [(2,.box [dI p.1,dI p.2.1,dI p.2.2.1,dI p.2.2.2.1,dI p.2.2.2.2.1,dI p.2.2.2.2.2]),(4,.box [dI 0,dI 0,dI 0,dI 0,dI 0,dI 0])]) (fun s h => ?_) (fun s h => ?_)
  · refine T_co [.keep [1,2,4]] ((fun (p : Int × Int × Int × Int × Int × Int × Int) => [(1,dI p.1),(2,.box [dI p.2.1,dI p.2.2.1,dI p.2.2.2.1,dI p.2.2.2.2.1,dI p.2.2.2.2.2.1,dI p.2.2.2.2.2.2]),(4,.box [dI 0,dI 0,dI 0,dI 0,dI 0,dI 0])]) (a1,a0.f0,a0.f1,a0.f2,a0.f3,a0.f4,a0.f5)) (by show _ = _; kernel_rfl) ?_
    refine T_block ?_
    refine T_loopF (ι := Int × Int × Int × Int × Int × Int × Int) (fun (p : Int × Int × Int × Int × Int × Int × Int) => [(1,dI p.1),(2,.box [dI p.2.1,dI p.2.2.1,dI p.2.2.2.1,dI p.2.2.2.2.1,dI p.2.2.2.2.2.1,dI p.2.2.2.2.2.2]),(4,.box [dI 0,dI 0,dI 0,dI 0,dI 0,dI 0])]) (fun n p => impose_box_turned_L0 F n p.1 p.2.1 p.2.2.1 p.2.2.2.1 p.2.2.2.2.1 p.2.2.2.2.2.1 p.2.2.2.2.2.2 = some s) (fun i hh => by simp [impose_box_turned_L0] at hh) (fun n p h => ?_) F (a1,a0.f0,a0.f1,a0.f2,a0.f3,a0.f4,a0.f5) h
    obtain ⟨v1,v2,v3,v4,v5,v6,v7⟩ := p
    have h : impose_box_turned_L0 F (n + 1) v1 v2 v3 v4 v5 v6 v7 = some s := h
    rw [impose_box_turned_L0] at h
    refine T_seqk ?_
    refine T_reg [] [1,2,4,6] [(6,dB (decide (v1 > (0 : Int))))] [] 2 (by kernel_rfl) (trivial) ?_
    refine T_cond (decide (v1 > (0 : Int))) (by kernel_rfl) (fun hc => ?_) (fun hc => ?_)
    · have h := cond_tt hc h
      refine T_skip fun a w hm => then_norm (((?_ : T Try.prog e 29 _ _ _) a w hm))
      refine T_seqk ?_
      refine T_block ?_
      refine T_reg_end [] [1,2,4] [(2,.box [dI v3,dI v2,dI (IntKind.i64.wrap ((IntKind.i64.wrap (v3 - v5)) - v7)),dI v4,dI v7,dI v6])] [] 20 (by kernel_rfl) (trivial) fun a w hm => inBlock_norm (then_norm (((?_ : T Try.prog e 29 _ _ _) a w hm)))
      refine T_reg_end [] [1,2,4] [(1,dI (IntKind.i64.wrap (v1 - (1 : Int))))] [] 3 (by kernel_rfl) (trivial) fun a w hm => then_norm (⟨(IntKind.i64.wrap (v1 - (1 : Int)),v3,v2,(IntKind.i64.wrap ((IntKind.i64.wrap (v3 - v5)) - v7)),v4,v7,v6),h,hm.co (cs := [.keep [1,2,4]]) (by show _ = _; kernel_rfl)⟩)
    · have h := cond_ff hc h
      obtain hs := Option.some.inj h; subst hs
      refine T_exit fun a w hm => then_exit (then_exit (inBlock_exit (then_norm (hm.co (cs := [.keep [2,4]]) (by show _ = _; kernel_rfl)))))
  · obtain ⟨v8,v9,v10,v11,v12,v13⟩ := s
    try dsimp only at h
    refine T_reg [] [4] [(4,.box [dI v8,dI v9,dI v10,dI v11,dI v12,dI v13])] [] 2 (by kernel_rfl) (trivial) ?_
    obtain hs := Option.some.inj h; subst hs
    refine T_ret fun a w hm => T_returnC (fr' := [(4,.box [dI v8,dI v9,dI v10,dI v11,dI v12,dI v13])]) (ts := [29]) (N' := 30) (fr2 := [(29,.agg (cS_impose_box (S_impose_box.mk v8 v9 v10 v11 v12 v13)))] ++ [(4,.box [dI v8,dI v9,dI v10,dI v11,dI v12,dI v13])]) [.keep [4]] (by kernel_rfl) (by kernel_rfl) (by kernel_rfl) (by kernel_rfl) (by show _ = _; kernel_rfl) (by exact trivial) a w hm
theorem impose_place_ok {F : Nat} {a0 : S_ImposeLayout} {a1 : Int} {a2 : S_FoldPage} {r : S_impose_box} (h : impose_place F a0 a1 a2 = some r) : ACall Try.prog 47 [.agg (cS_ImposeLayout a0),.d (.v (.int .i64 a1)),.agg (cS_FoldPage a2)] [] (.agg (cS_impose_box r)) [] := by
  rw [impose_place] at h
  refine ACall.intro (N := 104) Try.func47 rfl rfl rfl rfl rfl fun e => ?_
  refine T_reg [] [1,3,5,6] [(3,bx_ImposeLayout a0),(5,bx_FoldPage a2),(6,.box [dI 0,dI 0,dI 0,dI 0,dI 0,dI 0])] [] 3 (by kernel_rfl) (trivial) ?_
  obtain ⟨y1,hy1,h⟩ := call_ok h
  refine T_reg [(1,{ res := .tup [dI y1.1,dI y1.2] })] [1,3,5,6,7,8] [(7,dI y1.1),(8,dI y1.2)] [(1,ACall Try.prog 55 [.agg (cS_ImposeLayout a0)] [] (.tup [dI y1.1,dI y1.2]) [])] 5 (by kernel_rfl) (impose_leaf_ok hy1) ?_
  obtain ⟨y2,hy2,h⟩ := call_ok h
  refine T_drawX mixed 40 (.take 0 (.take 2 (.take 4 (.take 5 (.take 6 (.take 7 (.take 8 (.take 10 (.take 11 (.all (.alt 1 (.all (.alt 3 (.all (.alt 9 (.all (.alt 12 (.take 13 (.all (.alt 14 (.take 15 (.take 16 (.take 17 .done))) .stop))) .stop)) (.alt 12 (.all (.alt 9 (.take 13 (.all (.alt 14 (.take 15 (.take 16 (.take 17 .done))) .stop))) .stop)) .stop))) (.alt 9 (.all (.alt 3 (.all (.alt 12 (.take 13 (.all (.alt 14 (.take 15 (.take 16 (.take 17 .done))) .stop))) .stop)) (.alt 12 (.take 13 (.all (.alt 3 (.all (.alt 14 (.take 15 (.take 16 (.take 17 .done))) .stop)) (.alt 14 (.all (.alt 3 (.take 15 (.take 16 (.take 17 .done))) .stop)) .stop)))) .stop))) (.alt 12 (.all (.alt 3 (.all (.alt 9 (.take 13 (.all (.alt 14 (.take 15 (.take 16 (.take 17 .done))) .stop))) .stop)) (.alt 9 (.take 13 (.all (.alt 3 (.all (.alt 14 (.take 15 (.take 16 (.take 17 .done))) .stop)) (.alt 14 (.all (.alt 3 (.take 15 (.take 16 (.take 17 .done))) .stop)) .stop)))) .stop))) .stop)))) (.alt 3 (.all (.alt 1 (.all (.alt 9 (.all (.alt 12 (.take 13 (.all (.alt 14 (.take 15 (.take 16 (.take 17 .done))) .stop))) .stop)) (.alt 12 (.all (.alt 9 (.take 13 (.all (.alt 14 (.take 15 (.take 16 (.take 17 .done))) .stop))) .stop)) .stop))) (.alt 9 (.all (.alt 1 (.all (.alt 12 (.take 13 (.all (.alt 14 (.take 15 (.take 16 (.take 17 .done))) .stop))) .stop)) (.alt 12 (.take 13 (.all (.alt 1 (.all (.alt 14 (.take 15 (.take 16 (.take 17 .done))) .stop)) (.alt 14 (.take 15 (.all (.alt 1 (.take 16 (.take 17 .done)) .stop))) .stop)))) .stop))) (.alt 12 (.all (.alt 1 (.all (.alt 9 (.take 13 (.all (.alt 14 (.take 15 (.take 16 (.take 17 .done))) .stop))) .stop)) (.alt 9 (.take 13 (.all (.alt 1 (.all (.alt 14 (.take 15 (.take 16 (.take 17 .done))) .stop)) (.alt 14 (.take 15 (.all (.alt 1 (.take 16 (.take 17 .done)) .stop))) .stop)))) .stop))) .stop)))) (.alt 9 (.all (.alt 1 (.all (.alt 3 (.all (.alt 12 (.take 13 (.all (.alt 14 (.take 15 (.take 16 (.take 17 .done))) .stop))) .stop)) (.alt 12 (.take 13 (.all (.alt 3 (.all (.alt 14 (.take 15 (.take 16 (.take 17 .done))) .stop)) (.alt 14 (.all (.alt 3 (.take 15 (.take 16 (.take 17 .done))) .stop)) .stop)))) .stop))) (.alt 3 (.all (.alt 1 (.all (.alt 12 (.take 13 (.all (.alt 14 (.take 15 (.take 16 (.take 17 .done))) .stop))) .stop)) (.alt 12 (.take 13 (.all (.alt 1 (.all (.alt 14 (.take 15 (.take 16 (.take 17 .done))) .stop)) (.alt 14 (.take 15 (.all (.alt 1 (.take 16 (.take 17 .done)) .stop))) .stop)))) .stop))) (.alt 12 (.take 13 (.all (.alt 1 (.all (.alt 3 (.all (.alt 14 (.take 15 (.take 16 (.take 17 .done))) .stop)) (.alt 14 (.all (.alt 3 (.take 15 (.take 16 (.take 17 .done))) .stop)) .stop))) (.alt 3 (.all (.alt 1 (.all (.alt 14 (.take 15 (.take 16 (.take 17 .done))) .stop)) (.alt 14 (.take 15 (.all (.alt 1 (.take 16 (.take 17 .done)) .stop))) .stop))) (.alt 14 (.all (.alt 1 (.all (.alt 3 (.take 15 (.take 16 (.take 17 .done))) .stop)) (.alt 3 (.take 15 (.all (.alt 1 (.take 16 (.take 17 .done)) .stop))) .stop))) .stop))))) .stop)))) (.alt 12 (.all (.alt 1 (.all (.alt 3 (.all (.alt 9 (.take 13 (.all (.alt 14 (.take 15 (.take 16 (.take 17 .done))) .stop))) .stop)) (.alt 9 (.take 13 (.all (.alt 3 (.all (.alt 14 (.take 15 (.take 16 (.take 17 .done))) .stop)) (.alt 14 (.all (.alt 3 (.take 15 (.take 16 (.take 17 .done))) .stop)) .stop)))) .stop))) (.alt 3 (.all (.alt 1 (.all (.alt 9 (.take 13 (.all (.alt 14 (.take 15 (.take 16 (.take 17 .done))) .stop))) .stop)) (.alt 9 (.take 13 (.all (.alt 1 (.all (.alt 14 (.take 15 (.take 16 (.take 17 .done))) .stop)) (.alt 14 (.take 15 (.all (.alt 1 (.take 16 (.take 17 .done)) .stop))) .stop)))) .stop))) (.alt 9 (.take 13 (.all (.alt 1 (.all (.alt 3 (.all (.alt 14 (.take 15 (.take 16 (.take 17 .done))) .stop)) (.alt 14 (.all (.alt 3 (.take 15 (.take 16 (.take 17 .done))) .stop)) .stop))) (.alt 3 (.all (.alt 1 (.all (.alt 14 (.take 15 (.take 16 (.take 17 .done))) .stop)) (.alt 14 (.take 15 (.all (.alt 1 (.take 16 (.take 17 .done)) .stop))) .stop))) (.alt 14 (.all (.alt 1 (.all (.alt 3 (.take 15 (.take 16 (.take 17 .done))) .stop)) (.alt 3 (.take 15 (.all (.alt 1 (.take 16 (.take 17 .done)) .stop))) .stop))) .stop))))) .stop)))) .stop)))))))))))))) ([0,1,0,4,0,16,32,0,128,256,0,1024,2048,4608,8256,16392,32770,131071],[0,1,0,4,0,16,32,0,128,256,0,1024,2048,4608,8256,16392,32770,65536]) 241141 [(14,{ res := dI y2 })] [1,3,5,6,7,8,9] [] [(1,dI a1),(3,bx_ImposeLayout a0),(5,bx_FoldPage a2),(6,.box [dI 0,dI 0,dI 0,dI 0,dI 0,dI 0]),(7,dI y1.1),(8,dI y1.2),(9,dI (IntKind.i64.wrap (a0.f5 - (IntKind.i64.wrap (a0.f7 * y2)))))] ((fun (o6 : Prop) => fun (o14 : Prop) => [(4,o6),(9,o14),(6,o14),(7,o14),(6,o14),(3,o14),(8,o14),(6,o14),(3,o14),(9,o14),(6,o14),(7,o14),(6,o14),(3,o14),(8,o14),(6,o14),(3,o14),(9,o14),(6,o14),(3,o14),(8,o14),(6,o14),(3,o14),(8,o14),(3,o14),(6,o14),(3,o14),(4,o14),(15,o14),(6,o14),(3,o14),(8,o14),(6,o14),(3,o14),(8,o14),(3,o14),(6,o14),(3,o14),(4,o14)]) ((2 : Int) ≠ 0) (ACall Try.prog 66 [dI (IntKind.i64.wrap ((IntKind.i64.wrap (a1 - (1 : Int))).tdiv (2 : Int))),dI (IntKind.i64.wrap (a0.f0.f0 * a0.f0.f1))] [] (dI y2) [])) 10 (by kernel_rfl) (by kernel_rfl) (by kernel_rfl) (have p6 := (show (2 : Int) ≠ 0 by decide); have p14 := impose_depth_ok hy2; ⟨p6,p14,p14,p14,p14,p14,p14,p14,p14,p14,p14,p14,p14,p14,p14,p14,p14,p14,p14,p14,p14,p14,p14,p14,p14,p14,p14,p14,p14,p14,p14,p14,p14,p14,p14,p14,p14,p14,p14⟩) ?_
  refine T_reg [] [1,3,5,6,7,8,9,10] [(10,.box [dI (IntKind.i64.wrap ((IntKind.i64.wrap (a0.f1 + a0.f4)) + a0.f5)),dI (IntKind.i64.wrap (a0.f2 + (IntKind.i64.wrap ((2 : Int) * a0.f3)))),dI (IntKind.i64.wrap (a0.f5 - (IntKind.i64.wrap (a0.f7 * y2)))),dI a0.f3,dI a0.f1,dI a0.f2])] [] 24 (by kernel_rfl) (trivial) ?_
  refine T_joinc h (fun (p : Int) => [(3,bx_ImposeLayout a0),(5,bx_FoldPage a2),(6,.box [dI 0,dI 0,dI 0,dI 0,dI 0,dI 0]),(7,dI y1.1),(8,dI y1.2),(10,.box [dI (IntKind.i64.wrap ((IntKind.i64.wrap (a0.f1 + a0.f4)) + a0.f5)),dI (IntKind.i64.wrap (a0.f2 + (IntKind.i64.wrap ((2 : Int) * a0.f3)))),dI p,dI a0.f3,dI a0.f1,dI a0.f2])]) (fun s h => ?_) (fun v1 h => ?_)
  · refine T_reg [] [3,5,6,7,8,9,10,59] [(59,dB ((a1.tmod (2 : Int)) == (0 : Int)))] [(1,(2 : Int) ≠ 0)] 1 (by kernel_rfl) ((show (2 : Int) ≠ 0 by decide)) ?_
    refine T_cond ((a1.tmod (2 : Int)) == (0 : Int)) (by kernel_rfl) (fun hc => ?_) (fun hc => ?_)
    · have h := cond_tt hc h
      obtain ⟨z1,hz1,h⟩ := lett_ok h
      obtain hs := Option.some.inj h; subst hs
      refine T_reg_end [(3,{ rw := some (dI z1) })] [3,5,6,7,8,10] [(10,.box [dI (IntKind.i64.wrap ((IntKind.i64.wrap (a0.f1 + a0.f4)) + a0.f5)),dI (IntKind.i64.wrap (a0.f2 + (IntKind.i64.wrap ((2 : Int) * a0.f3)))),dI (IntKind.i64.wrap (z1 - a0.f1)),dI a0.f3,dI a0.f1,dI a0.f2])] [(3,(True) ∧ dI (IntKind.i64.wrap ((IntKind.i64.wrap ((IntKind.i64.wrap (a0.f1 + a0.f4)) + a0.f5)) - (IntKind.i64.wrap (a0.f5 - (IntKind.i64.wrap (a0.f7 * y2)))))) = dI z1)] 5 (by kernel_rfl) (⟨trivial,(by subst hz1; rfl)⟩) fun a w hm => then_norm (hm.co (cs := [.keep [3,5,6,7,8,10]]) (by show _ = _; kernel_rfl))
    · have h := cond_ff hc h
      obtain hs := Option.some.inj h; subst hs
      refine T_skip fun a w hm => then_norm (hm.co (cs := [.keep [3,5,6,7,8,10]]) (by show _ = _; kernel_rfl))
  · skip
    obtain ⟨y3,hy3,h⟩ := call_ok h
    refine T_reg [(3,{ res := .agg (cS_impose_box y3) })] [3,5,6,7,8,10] [(10,bx_impose_box y3)] [(3,ACall Try.prog 48 [.agg (cS_impose_box (S_impose_box.mk (IntKind.i64.wrap ((IntKind.i64.wrap (a0.f1 + a0.f4)) + a0.f5)) (IntKind.i64.wrap (a0.f2 + (IntKind.i64.wrap ((2 : Int) * a0.f3)))) v1 a0.f3 a0.f1 a0.f2)),dI a2.f3] [] (.agg (cS_impose_box y3)) [])] 1 (by kernel_rfl) (impose_box_turned_ok hy3) ?_
    obtain ⟨y4,hy4,h⟩ := call_ok h
    refine T_reg [(1,{ res := .tup [dI y4.1,dI y4.2] })] [3,5,6,7,8,10,11,12] [(11,dI y4.1),(12,dI y4.2)] [(1,ACall Try.prog 56 [.agg (cS_ImposeLayout a0)] [] (.tup [dI y4.1,dI y4.2]) [])] 5 (by kernel_rfl) (impose_single_ok hy4) ?_
    refine T_reg [] [6] [(6,.box [dI y4.1,dI y4.2,dI (IntKind.i64.wrap ((IntKind.i64.wrap (a0.f6 + (IntKind.i64.wrap (a2.f1 * y1.1)))) + y3.f2)),dI (IntKind.i64.wrap ((IntKind.i64.wrap (a0.f6 + (IntKind.i64.wrap (a2.f2 * y1.2)))) + y3.f3)),dI y3.f4,dI y3.f5])] [] 28 (by kernel_rfl) (trivial) ?_
    obtain hs := Option.some.inj h; subst hs
    refine T_ret fun a w hm => T_returnC (fr' := [(6,.box [dI y4.1,dI y4.2,dI (IntKind.i64.wrap ((IntKind.i64.wrap (a0.f6 + (IntKind.i64.wrap (a2.f1 * y1.1)))) + y3.f2)),dI (IntKind.i64.wrap ((IntKind.i64.wrap (a0.f6 + (IntKind.i64.wrap (a2.f2 * y1.2)))) + y3.f3)),dI y3.f4,dI y3.f5])]) (ts := [104]) (N' := 105) (fr2 := [(104,.agg (cS_impose_box (S_impose_box.mk y4.1 y4.2 (IntKind.i64.wrap ((IntKind.i64.wrap (a0.f6 + (IntKind.i64.wrap (a2.f1 * y1.1)))) + y3.f2)) (IntKind.i64.wrap ((IntKind.i64.wrap (a0.f6 + (IntKind.i64.wrap (a2.f2 * y1.2)))) + y3.f3)) y3.f4 y3.f5)))] ++ [(6,.box [dI y4.1,dI y4.2,dI (IntKind.i64.wrap ((IntKind.i64.wrap (a0.f6 + (IntKind.i64.wrap (a2.f1 * y1.1)))) + y3.f2)),dI (IntKind.i64.wrap ((IntKind.i64.wrap (a0.f6 + (IntKind.i64.wrap (a2.f2 * y1.2)))) + y3.f3)),dI y3.f4,dI y3.f5])]) [.keep [6]] (by kernel_rfl) (by kernel_rfl) (by kernel_rfl) (by kernel_rfl) (by show _ = _; kernel_rfl) (by exact trivial) a w hm
theorem impose_Sheet_ok {F : Nat} {a0 : S_ImposeLayout} {a1 : Int} {r : S_ImposeSheet × Int} (h : impose_Sheet F a0 a1 = some r) : ACall Try.prog 26 [.agg (cS_ImposeLayout a0),.d (.v (.int .i64 a1))] [] (.tup [.agg (cS_ImposeSheet r.1),.d (.v (.int .i64 r.2))]) [] := by
  rw [impose_Sheet] at h
  refine ACall.intro (N := 136) Try.func26 rfl rfl rfl rfl rfl fun e => ?_
  refine T_reg [] [1,2,4] [(2,bx_ImposeLayout a0),(4,.box [dI 0,dI 0,oW4 [],oW4 []])] [] 3 (by kernel_rfl) (trivial) ?_
  refine T_seqk ?_
  obtain ⟨y5,hy1,h⟩ := call_ok h
  refine T_reg [(1,{ res := dI y5 })] [1,2,4,6] [(6,dI y5)] [(1,ACall Try.prog 22 [.agg (cS_ImposeLayout a0)] [] (dI y5) [])] 1 (by kernel_rfl) (impose_Check_ok hy1) ?_
  refine T_reg [] [1,2,4,6,17] [(17,dB (y5 != (0 : Int)))] [] 2 (by kernel_rfl) (trivial) ?_
  refine T_cond (y5 != (0 : Int)) (by kernel_rfl) (fun hc => ?_) (fun hc => ?_)
  · have h := cond_tt hc h
    refine T_region [(0,{ take := [0] })] [4,5] [.nilc 4 2 79 4,.nilc 4 3 79 4,.keep [4,5]] [(4,.box [dI 0,dI 0,oW4 [],oW4 []]),(5,dI y5)] [] 4 (by kernel_rfl) (trivial) ?_
    obtain hs := Option.some.inj h; subst hs
    refine T_ret fun a w hm => then_ret (T_returnC (fr' := [(4,.box [dI 0,dI 0,.fz 4 ([].map cS_ImposePlace),.fz 4 ([].map cS_ImposePlace)]),(5,dI y5)]) (ts := [136,5]) (N' := 137) (fr2 := [(136,.agg (cS_ImposeSheet z_ImposeSheet))] ++ [(4,.box [dI 0,dI 0,.fz 4 ([].map cS_ImposePlace),.fz 4 ([].map cS_ImposePlace)]),(5,dI y5)]) [.frz (4,3),.frz (4,4),.keep [4,5]] (by kernel_rfl) (by kernel_rfl) (by kernel_rfl) (by kernel_rfl) (by show _ = _; kernel_rfl) (by exact trivial) a w hm)
  · have h := cond_ff hc h
    refine T_skip fun a w hm => then_norm (((?_ : T Try.prog e 136 _ _ _) a w hm))
    obtain ⟨y1,hy2,h⟩ := call_ok h
    refine T_reg [(2,{ res := .tup [.d (.sl 4 (y1.1.map cS_FoldPage)),dI y1.2] })] [1,2,4,7] [(7,.d (.sl 4 (y1.1.map cS_FoldPage)))] [(2,ACall Try.prog 24 [.agg (cS_FoldScheme a0.f0)] [] (.tup [.d (.sl 4 (y1.1.map cS_FoldPage)),dI y1.2]) [])] 5 (by kernel_rfl) (fold_Pages_ok hy2) ?_
    refine T_seqk ?_
    refine T_reg [(5,{ rw := some (dI (y1.1.length : Int)) })] [1,2,4,7,33] [(33,dB (bif (decide (a1 < (0 : Int))) then true else (decide (a1 > (y1.1.length : Int)))))] [(3,((((decide (a1 < (0 : Int))) == false) && true) = true → True)),(0,((((decide (a1 < (0 : Int))) == false) && true) = true → True)),(0,((((decide (a1 < (0 : Int))) == false) && true) = true → True ∧ dI ((y1.1.map cS_FoldPage).length : Int) = dI (y1.1.length : Int))),(0,((((decide (a1 < (0 : Int))) == false) && true) = true → True))] 1 (by kernel_rfl) (⟨(fun hg => trivial),(fun hg => trivial),(fun hg => len_ok cS_FoldPage),(fun hg => trivial)⟩) ?_
    refine T_cond (bif (decide (a1 < (0 : Int))) then true else (decide (a1 > (y1.1.length : Int)))) (by kernel_rfl) (fun hc => ?_) (fun hc => ?_)
    · have h := cond_tt hc h
      refine T_region [(0,{ take := [0] })] [4,5] [.nilc 4 2 79 4,.nilc 4 3 79 4,.keep [4,5]] [(4,.box [dI 0,dI 0,oW4 [],oW4 []]),(5,dI (3 : Int))] [] 3 (by kernel_rfl) (trivial) ?_
      obtain hs := Option.some.inj h; subst hs
      refine T_ret fun a w hm => then_ret (T_returnC (fr' := [(4,.box [dI 0,dI 0,.fz 4 ([].map cS_ImposePlace),.fz 4 ([].map cS_ImposePlace)]),(5,dI (3 : Int))]) (ts := [136,5]) (N' := 137) (fr2 := [(136,.agg (cS_ImposeSheet z_ImposeSheet))] ++ [(4,.box [dI 0,dI 0,.fz 4 ([].map cS_ImposePlace),.fz 4 ([].map cS_ImposePlace)]),(5,dI (3 : Int))]) [.frz (4,3),.frz (4,4),.keep [4,5]] (by kernel_rfl) (by kernel_rfl) (by kernel_rfl) (by kernel_rfl) (by show _ = _; kernel_rfl) (by exact trivial) a w hm)
    · have h := cond_ff hc h
      refine T_skip fun a w hm => then_norm (((?_ : T Try.prog e 136 _ _ _) a w hm))
      refine T_reg [] [1,2,4,7,9] [(9,.box [dI 0,dI 0,oW4 [],oW4 []])] [] 1 (by kernel_rfl) (trivial) ?_
      obtain ⟨y2,hy3,h⟩ := call_ok h
      refine T_reg [(1,{ res := .tup [dI y2.1,dI y2.2] })] [1,2,4,7,9] [(9,.box [dI y2.1,dI y2.2,oW4 [],oW4 []])] [(1,ACall Try.prog 44 [.agg (cS_ImposeLayout a0)] [] (.tup [dI y2.1,dI y2.2]) [])] 7 (by kernel_rfl) (impose_size_ok hy3) ?_
      refine T_seqk ?_
      obtain ⟨hp1,h⟩ := chk_ok h
      refine T_reg [(2,{ rw := some (.d (.sl 4 (((y1.1.drop (0 : Int).toNat).take (a1.toNat - (0 : Int).toNat)).map cS_FoldPage))) }),(3,{ rw := some (dI (((y1.1.drop (0 : Int).toNat).take (a1.toNat - (0 : Int).toNat)).length : Int)) })] [2,4,9,44,45,46] [(44,.d (.sl 4 (((y1.1.drop (0 : Int).toNat).take (a1.toNat - (0 : Int).toNat)).map cS_FoldPage))),(45,dI (((y1.1.drop (0 : Int).toNat).take (a1.toNat - (0 : Int).toNat)).length : Int)),(46,dI (0 : Int))] [(2,(0 ≤ (0 : Int) ∧ (0 : Int) ≤ a1 ∧ a1 ≤ ((y1.1.map cS_FoldPage).length : Int)) ∧ AV.d (.sl 4 (((y1.1.map cS_FoldPage).drop (0 : Int).toNat).take (a1.toNat - (0 : Int).toNat))) = .d (.sl 4 (((y1.1.drop (0 : Int).toNat).take (a1.toNat - (0 : Int).toNat)).map cS_FoldPage))),(0,True ∧ dI ((((y1.1.drop (0 : Int).toNat).take (a1.toNat - (0 : Int).toNat)).map cS_FoldPage).length : Int) = dI (((y1.1.drop (0 : Int).toNat).take (a1.toNat - (0 : Int).toNat)).length : Int))] 1 (by kernel_rfl) (⟨cutH cS_FoldPage hp1,len_ok cS_FoldPage⟩) ?_
      refine T_joinct h (fun (p : (List S_ImposePlace) × (List S_ImposePlace)) => [(4,.box [dI 0,dI 0,oW4 [],oW4 []]),(9,.box [dI y2.1,dI y2.2,oW4 p.1,oW4 p.2])]) (fun s h => ?_) (fun s h => ?_)
      · refine T_co [.keep [2,4,9,44,45,46]] ((fun (p : (List S_ImposePlace) × (List S_ImposePlace) × Int) => [(2,bx_ImposeLayout a0),(4,.box [dI 0,dI 0,oW4 [],oW4 []]),(9,.box [dI y2.1,dI y2.2,oW4 p.1,oW4 p.2.1]),(44,.d (.sl 4 (((y1.1.drop (0 : Int).toNat).take (a1.toNat - (0 : Int).toNat)).map cS_FoldPage))),(45,dI (((y1.1.drop (0 : Int).toNat).take (a1.toNat - (0 : Int).toNat)).length : Int)),(46,dI p.2.2)]) ([],[],(0 : Int))) (by show _ = _; kernel_rfl) ?_
        refine T_block ?_
        refine T_loopF (ι := (List S_ImposePlace) × (List S_ImposePlace) × Int) (fun (p : (List S_ImposePlace) × (List S_ImposePlace) × Int) => [(2,bx_ImposeLayout a0),(4,.box [dI 0,dI 0,oW4 [],oW4 []]),(9,.box [dI y2.1,dI y2.2,oW4 p.1,oW4 p.2.1]),(44,.d (.sl 4 (((y1.1.drop (0 : Int).toNat).take (a1.toNat - (0 : Int).toNat)).map cS_FoldPage))),(45,dI (((y1.1.drop (0 : Int).toNat).take (a1.toNat - (0 : Int).toNat)).length : Int)),(46,dI p.2.2)]) (fun n p => impose_Sheet_L0 F a0 a1 y1 y2 n p.1 p.2.1 p.2.2 = some s) (fun i hh => by simp [impose_Sheet_L0] at hh) (fun n p h => ?_) F ([],[],(0 : Int)) h
        obtain ⟨v1,v2,v3⟩ := p
        have h : impose_Sheet_L0 F a0 a1 y1 y2 (n + 1) v1 v2 v3 = some s := h
        rw [impose_Sheet_L0] at h
        refine T_reg [] [2,4,9,44,45,46,47] [(47,dB (decide (v3 < (((y1.1.drop (0 : Int).toNat).take (a1.toNat - (0 : Int).toNat)).length : Int))))] [] 1 (by kernel_rfl) (trivial) ?_
        refine T_seqk ?_
        refine T_cond (decide (v3 < (((y1.1.drop (0 : Int).toNat).take (a1.toNat - (0 : Int).toNat)).length : Int))) (by kernel_rfl) (fun hc => ?_) (fun hc => ?_)
        · have h := cond_tt hc h
          refine T_skip fun a w hm => then_norm (((?_ : T Try.prog e 136 _ _ _) a w hm))
          refine T_joinc h (fun (p : (List S_ImposePlace) × (List S_ImposePlace)) => [(2,bx_ImposeLayout a0),(4,.box [dI 0,dI 0,oW4 [],oW4 []]),(9,.box [dI y2.1,dI y2.2,oW4 p.1,oW4 p.2]),(44,.d (.sl 4 (((y1.1.drop (0 : Int).toNat).take (a1.toNat - (0 : Int).toNat)).map cS_FoldPage))),(45,dI (((y1.1.drop (0 : Int).toNat).take (a1.toNat - (0 : Int).toNat)).length : Int)),(46,dI v3)]) (fun s h => ?_) (fun s h => ?_)
          · refine T_block ?_
            obtain ⟨hp2,h⟩ := chk_ok h
            refine T_reg [(1,{ cs := cS_FoldPage (((y1.1.drop (0 : Int).toNat).take (a1.toNat - (0 : Int).toNat)).getD v3.toNat z_FoldPage) })] [2,4,9,10,11,44,45,46] [(10,dI v3),(11,.box [dB ((((y1.1.drop (0 : Int).toNat).take (a1.toNat - (0 : Int).toNat)).getD v3.toNat z_FoldPage).f0),dI ((((y1.1.drop (0 : Int).toNat).take (a1.toNat - (0 : Int).toNat)).getD v3.toNat z_FoldPage).f1),dI ((((y1.1.drop (0 : Int).toNat).take (a1.toNat - (0 : Int).toNat)).getD v3.toNat z_FoldPage).f2),dI ((((y1.1.drop (0 : Int).toNat).take (a1.toNat - (0 : Int).toNat)).getD v3.toNat z_FoldPage).f3)])] [(1,0 ≤ v3 ∧ (((y1.1.drop (0 : Int).toNat).take (a1.toNat - (0 : Int).toNat)).map cS_FoldPage)[v3.toNat]? = some (cS_FoldPage (((y1.1.drop (0 : Int).toNat).take (a1.toNat - (0 : Int).toNat)).getD v3.toNat z_FoldPage)))] 4 (by kernel_rfl) (idx_ok (d := z_FoldPage) cS_FoldPage hp2) ?_
            obtain ⟨y3,hy4,h⟩ := call_ok h
            refine T_reg [(4,{ res := .agg (cS_impose_box y3) })] [2,4,9,10,11,12,44,45,46] [(12,bx_impose_box y3)] [(4,ACall Try.prog 47 [.agg (cS_ImposeLayout a0),dI (IntKind.i64.wrap (v3 + (1 : Int))),.agg (cS_FoldPage (((y1.1.drop (0 : Int).toNat).take (a1.toNat - (0 : Int).toNat)).getD v3.toNat z_FoldPage))] [] (.agg (cS_impose_box y3)) [])] 2 (by kernel_rfl) (impose_place_ok hy4) ?_
            obtain ⟨z1,hz1,h⟩ := lett_ok h
            refine T_reg [(7,{ rw := some (dI z1) })] [2,4,9,10,11,12,13,44,45,46] [(13,.box [dI (IntKind.i64.wrap (v3 + (1 : Int))),dI y3.f2,dI y3.f3,dI z1])] [(7,(True) ∧ dI ((((y1.1.drop (0 : Int).toNat).take (a1.toNat - (0 : Int).toNat)).getD v3.toNat z_FoldPage).f3) = dI z1)] 3 (by kernel_rfl) (⟨trivial,(by subst hz1; rfl)⟩) ?_
            refine T_joinE h (fun (p : Int × Int × Int) => [(2,bx_ImposeLayout a0),(4,.box [dI 0,dI 0,oW4 [],oW4 []]),(9,.box [dI y2.1,dI y2.2,oW4 v1,oW4 v2]),(13,.box [dI (IntKind.i64.wrap (v3 + (1 : Int))),dI p.1,dI p.2.1,dI p.2.2]),(44,.d (.sl 4 (((y1.1.drop (0 : Int).toNat).take (a1.toNat - (0 : Int).toNat)).map cS_FoldPage))),(45,dI (((y1.1.drop (0 : Int).toNat).take (a1.toNat - (0 : Int).toNat)).length : Int)),(46,dI v3)]) (fun s h hk1 => ?_) (fun s h => ?_)
            · refine T_block ?_
              obtain ⟨z2,hz2,h⟩ := lett_ok h
              refine T_reg [(5,{ rw := some (dB z2) })] [2,4,9,10,11,12,13,44,45,46,65] [(65,dB (bif (a0.f8 == (0 : Int)) then z2 else false))] [(4,((((a0.f8 == (0 : Int)) == true) && true) = true → True)),(0,((((a0.f8 == (0 : Int)) == true) && true) = true → (True) ∧ dB ((((y1.1.drop (0 : Int).toNat).take (a1.toNat - (0 : Int).toNat)).getD v3.toNat z_FoldPage).f0) = dB z2))] 2 (by kernel_rfl) (⟨(fun hg => trivial),(fun hg => ⟨trivial,(by subst hz2; rfl)⟩)⟩) ?_
              refine T_cond (bif (a0.f8 == (0 : Int)) then z2 else false) (by kernel_rfl) (fun hc => ?_) (fun hc => ?_)
              · have h := cond_tt hc h
                obtain ⟨hp3,h⟩ := chk_ok h
                refine T_reg [(3,{ es := some (([(S_ImposePlace.mk (IntKind.i64.wrap (v3 + (1 : Int))) y3.f2 y3.f3 z1)]).map cS_ImposePlace) }),(4,{ es := some ((v2 ++ ([(S_ImposePlace.mk (IntKind.i64.wrap (v3 + (1 : Int))) y3.f2 y3.f3 z1)])).map cS_ImposePlace) })] [2,4,9,44,45,46] [(9,.box [dI y2.1,dI y2.2,oW4 v1,.own 79 4 ((v2 ++ ([(S_ImposePlace.mk (IntKind.i64.wrap (v3 + (1 : Int))) y3.f2 y3.f3 z1)])).map cS_ImposePlace)])] [(3,(([(S_ImposePlace.mk (IntKind.i64.wrap (v3 + (1 : Int))) y3.f2 y3.f3 z1)]).map cS_ImposePlace) = (([(S_ImposePlace.mk (IntKind.i64.wrap (v3 + (1 : Int))) y3.f2 y3.f3 z1)]).map cS_ImposePlace)),(0,(v2.map cS_ImposePlace).length + (([(S_ImposePlace.mk (IntKind.i64.wrap (v3 + (1 : Int))) y3.f2 y3.f3 z1)]).map cS_ImposePlace).length ≤ 4294967296 ∧ (v2.map cS_ImposePlace) ++ (([(S_ImposePlace.mk (IntKind.i64.wrap (v3 + (1 : Int))) y3.f2 y3.f3 z1)]).map cS_ImposePlace) = ((v2 ++ ([(S_ImposePlace.mk (IntKind.i64.wrap (v3 + (1 : Int))) y3.f2 y3.f3 z1)])).map cS_ImposePlace))] 2 (by kernel_rfl) (⟨rfl,app_ok cS_ImposePlace hp3⟩) ?_
                obtain hs := Option.some.inj h; subst hs
                have h := callE_esc hk1
                obtain hs := Option.some.inj h; subst hs
                refine T_exit fun a w hm => inBlock_pass rfl (then_exit (inBlock_exit (then_norm (hm.co (cs := [.keep [2,4,9,44,45,46]]) (by show _ = _; kernel_rfl)))))
              · have h := cond_ff hc h
                obtain ⟨z3,hz3,h⟩ := lett_ok h
                refine T_reg [(5,{ rw := some (dB z3) })] [2,4,9,10,11,12,13,44,45,46,79] [(79,dB (bif (a0.f8 == (1 : Int)) then z3 else false))] [(4,((((a0.f8 == (1 : Int)) == true) && true) = true → True)),(0,((((a0.f8 == (1 : Int)) == true) && true) = true → (True) ∧ dB ((((y1.1.drop (0 : Int).toNat).take (a1.toNat - (0 : Int).toNat)).getD v3.toNat z_FoldPage).f0) = dB z3))] 2 (by kernel_rfl) (⟨(fun hg => trivial),(fun hg => ⟨trivial,(by subst hz3; rfl)⟩)⟩) ?_
                refine T_cond (bif (a0.f8 == (1 : Int)) then z3 else false) (by kernel_rfl) (fun hc => ?_) (fun hc => ?_)
                · have h := cond_tt hc h
                  obtain hs := Option.some.inj h; subst hs
                  refine T_reg_end [] [2,4,9,13,44,45,46] [(13,.box [dI (IntKind.i64.wrap (v3 + (1 : Int))),dI (IntKind.i64.wrap (y3.f2 + (IntKind.i64.wrap (y2.1.tdiv (2 : Int))))),dI y3.f3,dI z1])] [(4,(2 : Int) ≠ 0)] 3 (by kernel_rfl) ((show (2 : Int) ≠ 0 by decide)) fun a w hm => inBlock_norm (then_norm (⟨_,rfl,hm.co (cs := [.keep [2,4,9,13,44,45,46]]) (by show _ = _; kernel_rfl)⟩))
                · have h := cond_ff hc h
                  obtain ⟨z4,hz4,h⟩ := lett_ok h
                  refine T_reg [(5,{ rw := some (dB z4) })] [2,4,9,10,11,12,13,44,45,46,94] [(94,dB (bif (a0.f8 == (2 : Int)) then z4 else false))] [(4,((((a0.f8 == (2 : Int)) == true) && true) = true → True)),(0,((((a0.f8 == (2 : Int)) == true) && true) = true → (True) ∧ dB ((((y1.1.drop (0 : Int).toNat).take (a1.toNat - (0 : Int).toNat)).getD v3.toNat z_FoldPage).f0) = dB z4))] 2 (by kernel_rfl) (⟨(fun hg => trivial),(fun hg => ⟨trivial,(by subst hz4; rfl)⟩)⟩) ?_
                  refine T_cond (bif (a0.f8 == (2 : Int)) then z4 else false) (by kernel_rfl) (fun hc => ?_) (fun hc => ?_)
                  · have h := cond_tt hc h
                    obtain ⟨y4,hy5,h⟩ := call_ok h
                    refine T_reg [(1,{ res := .agg (cS_impose_box y4) })] [2,4,9,10,11,12,13,44,45,46] [(12,bx_impose_box y4)] [(1,ACall Try.prog 48 [.agg (cS_impose_box y3),dI (2 : Int)] [] (.agg (cS_impose_box y4)) [])] 1 (by kernel_rfl) (impose_box_turned_ok hy5) ?_
                    obtain ⟨z5,hz5,h⟩ := lett_ok h
                    obtain hs := Option.some.inj h; subst hs
                    refine T_reg_end [(11,{ rw := some (dI z5) })] [2,4,9,13,44,45,46] [(13,.box [dI (IntKind.i64.wrap (v3 + (1 : Int))),dI y4.f2,dI (IntKind.i64.wrap ((IntKind.i64.wrap (y2.2.tdiv (2 : Int))) + y4.f3)),dI ((IntKind.i64.wrap (z5 + (2 : Int))).tmod (4 : Int))])] [(6,(2 : Int) ≠ 0),(4,(True) ∧ dI ((((y1.1.drop (0 : Int).toNat).take (a1.toNat - (0 : Int).toNat)).getD v3.toNat z_FoldPage).f3) = dI z5),(1,(4 : Int) ≠ 0)] 2 (by kernel_rfl) (⟨(show (2 : Int) ≠ 0 by decide),⟨trivial,(by subst hz5; rfl)⟩,(show (4 : Int) ≠ 0 by decide)⟩) fun a w hm => inBlock_norm (then_norm (⟨_,rfl,hm.co (cs := [.keep [2,4,9,13,44,45,46]]) (by show _ = _; kernel_rfl)⟩))
                  · have h := cond_ff hc h
                    obtain hs := Option.some.inj h; subst hs
                    refine T_skip fun a w hm => inBlock_norm (then_norm (⟨_,rfl,hm.co (cs := [.keep [2,4,9,13,44,45,46]]) (by show _ = _; kernel_rfl)⟩))
            · obtain ⟨v4,v5,v6⟩ := s
              try dsimp only at h
              obtain ⟨hp4,h⟩ := chk_ok h
              refine T_reg [(3,{ es := some (([(S_ImposePlace.mk (IntKind.i64.wrap (v3 + (1 : Int))) v4 v5 v6)]).map cS_ImposePlace) }),(4,{ es := some ((v1 ++ ([(S_ImposePlace.mk (IntKind.i64.wrap (v3 + (1 : Int))) v4 v5 v6)])).map cS_ImposePlace) })] [2,4,9,13,44,45,46] [(9,.box [dI y2.1,dI y2.2,.own 79 4 ((v1 ++ ([(S_ImposePlace.mk (IntKind.i64.wrap (v3 + (1 : Int))) v4 v5 v6)])).map cS_ImposePlace),oW4 v2])] [(3,(([(S_ImposePlace.mk (IntKind.i64.wrap (v3 + (1 : Int))) v4 v5 v6)]).map cS_ImposePlace) = (([(S_ImposePlace.mk (IntKind.i64.wrap (v3 + (1 : Int))) v4 v5 v6)]).map cS_ImposePlace)),(0,(v1.map cS_ImposePlace).length + (([(S_ImposePlace.mk (IntKind.i64.wrap (v3 + (1 : Int))) v4 v5 v6)]).map cS_ImposePlace).length ≤ 4294967296 ∧ (v1.map cS_ImposePlace) ++ (([(S_ImposePlace.mk (IntKind.i64.wrap (v3 + (1 : Int))) v4 v5 v6)]).map cS_ImposePlace) = ((v1 ++ ([(S_ImposePlace.mk (IntKind.i64.wrap (v3 + (1 : Int))) v4 v5 v6)])).map cS_ImposePlace))] 2 (by kernel_rfl) (⟨rfl,app_ok cS_ImposePlace hp4⟩) ?_
              refine T_reg [] [2,4,9,13,44,45,46,127] [(127,dB (a0.f8 != (0 : Int)))] [] 3 (by kernel_rfl) (trivial) ?_
              refine T_cond (a0.f8 != (0 : Int)) (by kernel_rfl) (fun hc => ?_) (fun hc => ?_)
              · have h := cond_tt hc h
                obtain ⟨hp5,h⟩ := chk_ok h
                obtain hs := Option.some.inj h; subst hs
                refine T_reg_end [(3,{ es := some (([(S_ImposePlace.mk (IntKind.i64.wrap (v3 + (1 : Int))) v4 v5 v6)]).map cS_ImposePlace) }),(4,{ es := some ((v2 ++ ([(S_ImposePlace.mk (IntKind.i64.wrap (v3 + (1 : Int))) v4 v5 v6)])).map cS_ImposePlace) })] [2,4,9,44,45,46] [(9,.box [dI y2.1,dI y2.2,.own 79 4 ((v1 ++ ([(S_ImposePlace.mk (IntKind.i64.wrap (v3 + (1 : Int))) v4 v5 v6)])).map cS_ImposePlace),.own 79 4 ((v2 ++ ([(S_ImposePlace.mk (IntKind.i64.wrap (v3 + (1 : Int))) v4 v5 v6)])).map cS_ImposePlace)])] [(3,(([(S_ImposePlace.mk (IntKind.i64.wrap (v3 + (1 : Int))) v4 v5 v6)]).map cS_ImposePlace) = (([(S_ImposePlace.mk (IntKind.i64.wrap (v3 + (1 : Int))) v4 v5 v6)]).map cS_ImposePlace)),(0,(v2.map cS_ImposePlace).length + (([(S_ImposePlace.mk (IntKind.i64.wrap (v3 + (1 : Int))) v4 v5 v6)]).map cS_ImposePlace).length ≤ 4294967296 ∧ (v2.map cS_ImposePlace) ++ (([(S_ImposePlace.mk (IntKind.i64.wrap (v3 + (1 : Int))) v4 v5 v6)]).map cS_ImposePlace) = ((v2 ++ ([(S_ImposePlace.mk (IntKind.i64.wrap (v3 + (1 : Int))) v4 v5 v6)])).map cS_ImposePlace))] 2 (by kernel_rfl) (⟨rfl,app_ok cS_ImposePlace hp5⟩) fun a w hm => inBlock_norm (then_norm (hm.co (cs := [.keep [2,4,9,44,45,46]]) (by show _ = _; kernel_rfl)))
              · have h := cond_ff hc h
                obtain hs := Option.some.inj h; subst hs
                refine T_skip fun a w hm => inBlock_norm (then_norm (hm.co (cs := [.keep [2,4,9,44,45,46]]) (by show _ = _; kernel_rfl)))
          · obtain ⟨v7,v8⟩ := s
            try dsimp only at h
            refine T_reg_end [] [2,4,9,44,45,46] [(46,dI (IntKind.i64.wrap (v3 + (1 : Int))))] [] 2 (by kernel_rfl) (trivial) fun a w hm => then_norm (⟨(v7,v8,IntKind.i64.wrap (v3 + (1 : Int))),h,hm.co (cs := [.keep [2,4,9,44,45,46]]) (by show _ = _; kernel_rfl)⟩)
        · have h := cond_ff hc h
          obtain hs := Option.some.inj h; subst hs
          refine T_exit fun a w hm => then_exit (then_exit (inBlock_exit (then_norm (hm.co (cs := [.keep [4,9]]) (by show _ = _; kernel_rfl)))))
      · obtain ⟨v9,v10⟩ := s
        try dsimp only at h
        refine fun a w hm => then_norm (((?_ : T Try.prog e 136 _ _ _) a w hm))
        refine T_reg [(0,{ frz := [(9,3),(9,4)] })] [4,5] [(4,.box [dI y2.1,dI y2.2,.d (.sl 4 (v9.map cS_ImposePlace)),.d (.sl 4 (v10.map cS_ImposePlace))]),(5,dI (0 : Int))] [] 3 (by kernel_rfl) (trivial) ?_
        obtain hs := Option.some.inj h; subst hs
        refine T_ret fun a w hm => T_returnC (fr' := [(4,.box [dI y2.1,dI y2.2,.d (.sl 4 (v9.map cS_ImposePlace)),.d (.sl 4 (v10.map cS_ImposePlace))]),(5,dI (0 : Int))]) (ts := [136,5]) (N' := 137) (fr2 := [(136,.agg (cS_ImposeSheet (S_ImposeSheet.mk y2.1 y2.2 v9 v10)))] ++ [(4,.box [dI y2.1,dI y2.2,.d (.sl 4 (v9.map cS_ImposePlace)),.d (.sl 4 (v10.map cS_ImposePlace))]),(5,dI (0 : Int))]) [.keep [4,5]] (by kernel_rfl) (by kernel_rfl) (by kernel_rfl) (by kernel_rfl) (by show _ = _; kernel_rfl) (by exact trivial) a w hm
theorem slices_Equal_ImposePlace_ok {F : Nat} {a0 : List S_ImposePlace} {a1 : List S_ImposePlace} {r : Bool} (h : slices_Equal_ImposePlace F a0 a1 = some r) : ACall Try.prog 28 [.d (.sl 4 (a0.map cS_ImposePlace)),.d (.sl 4 (a1.map cS_ImposePlace))] [] (.d (.v (.bool r))) [] := by
  rw [slices_Equal_ImposePlace] at h
  refine ACall.intro (N := 26) Try.func28 rfl rfl rfl rfl rfl fun e => ?_
  refine T_reg [] [0,1] [] [] 1 (by kernel_rfl) (trivial) ?_
  refine T_seqk ?_
  refine T_reg [(1,{ rw := some (dI (a0.length : Int)) }),(3,{ rw := some (dI (a1.length : Int)) })] [0,1,10] [(10,dB ((a0.length : Int) != (a1.length : Int)))] [(1,True ∧ dI ((a0.map cS_ImposePlace).length : Int) = dI (a0.length : Int)),(1,True ∧ dI ((a1.map cS_ImposePlace).length : Int) = dI (a1.length : Int))] 1 (by kernel_rfl) (⟨len_ok cS_ImposePlace,len_ok cS_ImposePlace⟩) ?_
  refine T_cond ((a0.length : Int) != (a1.length : Int)) (by kernel_rfl) (fun hc => ?_) (fun hc => ?_)
  · have h := cond_tt hc h
    refine T_reg [] [4] [(4,dB false)] [] 1 (by kernel_rfl) (trivial) ?_
    obtain hs := Option.some.inj h; subst hs
    refine T_ret fun a w hm => then_ret (T_return (fr' := [(4,dB false)]) [4] (by kernel_rfl) [.keep [4]] (by kernel_rfl) (by kernel_rfl) (by kernel_rfl) (by show _ = _; kernel_rfl) (by exact trivial) a w hm)
  · have h := cond_ff hc h
    refine T_skip fun a w hm => then_norm (((?_ : T Try.prog e 26 _ _ _) a w hm))
    refine T_seqk ?_
    refine T_reg [(1,{ rw := some (dI (a0.length : Int)) })] [0,1,12,13] [(12,dI (a0.length : Int)),(13,dI (0 : Int))] [(1,True ∧ dI ((a0.map cS_ImposePlace).length : Int) = dI (a0.length : Int))] 1 (by kernel_rfl) (len_ok cS_ImposePlace) ?_
    refine T_joinEt h (fun (p : Unit) => []) (fun s h hk1 => ?_) (fun s h => ?_)
    · refine T_co [.keep [0,1,12,13]] ((fun (p : Int) => [(0,.d (.sl 4 (a0.map cS_ImposePlace))),(1,.d (.sl 4 (a1.map cS_ImposePlace))),(12,dI (a0.length : Int)),(13,dI p)]) (0 : Int)) (by show _ = _; kernel_rfl) ?_
      refine T_block ?_
      refine T_loopF (ι := Int) (fun (p : Int) => [(0,.d (.sl 4 (a0.map cS_ImposePlace))),(1,.d (.sl 4 (a1.map cS_ImposePlace))),(12,dI (a0.length : Int)),(13,dI p)]) (fun n p => slices_Equal_ImposePlace_L0 F a0 a1 n p = some s) (fun i hh => by simp [slices_Equal_ImposePlace_L0] at hh) (fun n v1 h => ?_) F (0 : Int) h
      have h : slices_Equal_ImposePlace_L0 F a0 a1 (n + 1) v1 = some s := h
      rw [slices_Equal_ImposePlace_L0] at h
      refine T_reg [] [0,1,12,13,14] [(14,dB (decide (v1 < (a0.length : Int))))] [] 1 (by kernel_rfl) (trivial) ?_
      refine T_seqk ?_
      refine T_cond (decide (v1 < (a0.length : Int))) (by kernel_rfl) (fun hc => ?_) (fun hc => ?_)
      · have h := cond_tt hc h
        refine T_skip fun a w hm => then_norm (((?_ : T Try.prog e 26 _ _ _) a w hm))
        refine T_seqk ?_
        refine T_block ?_
        refine T_reg [] [0,1,5,12,13] [(5,dI v1)] [] 2 (by kernel_rfl) (trivial) ?_
        obtain ⟨hp1,h⟩ := chk_ok h
        obtain ⟨hp2,h⟩ := chk_ok h
        obtain ⟨z1,hz1,h⟩ := lett_ok h
        refine T_draw mixed [(2,{ cs := cS_ImposePlace (a0.getD v1.toNat z_ImposePlace) }),(6,{ cs := cS_ImposePlace (a1.getD v1.toNat z_ImposePlace) }),(8,{ rw := some (dB z1) })] [0,1,12,13,24] [] [(0,.d (.sl 4 (a0.map cS_ImposePlace))),(1,.d (.sl 4 (a1.map cS_ImposePlace))),(12,dI (a0.length : Int)),(13,dI v1),(24,dB z1)] [(2,0 ≤ v1 ∧ (a0.map cS_ImposePlace)[v1.toNat]? = some (cS_ImposePlace (a0.getD v1.toNat z_ImposePlace))),(3,0 ≤ v1 ∧ (a1.map cS_ImposePlace)[v1.toNat]? = some (cS_ImposePlace (a1.getD v1.toNat z_ImposePlace))),(1,(True) ∧ dB (!((a0.getD v1.toNat z_ImposePlace).f0 == (a1.getD v1.toNat z_ImposePlace).f0 && ((a0.getD v1.toNat z_ImposePlace).f1 == (a1.getD v1.toNat z_ImposePlace).f1 && ((a0.getD v1.toNat z_ImposePlace).f2 == (a1.getD v1.toNat z_ImposePlace).f2 && ((a0.getD v1.toNat z_ImposePlace).f3 == (a1.getD v1.toNat z_ImposePlace).f3 && true))))) = dB z1)] 0 (by kernel_rfl) (⟨idx_ok (d := z_ImposePlace) cS_ImposePlace hp1,idx_ok (d := z_ImposePlace) cS_ImposePlace hp2,⟨trivial,(by subst hz1; rfl)⟩⟩) ?_
        refine T_cond z1 (by kernel_rfl) (fun hc => ?_) (fun hc => ?_)
        · have h := cond_tt hc h
          refine T_reg [] [4] [(4,dB false)] [] 1 (by kernel_rfl) (trivial) ?_
          obtain hs := Option.some.inj h; subst hs
          have h := callE_esc hk1
          obtain hs := Option.some.inj h; subst hs
          refine T_ret fun a w hm => inBlock_ret (then_ret (then_ret (inBlock_ret (then_ret (then_ret (T_return (fr' := [(4,dB false)]) [4] (by kernel_rfl) [.keep [4]] (by kernel_rfl) (by kernel_rfl) (by kernel_rfl) (by show _ = _; kernel_rfl) (by exact trivial) a w hm))))))
        · have h := cond_ff hc h
          refine T_skip fun a w hm => inBlock_norm (then_norm (((?_ : T Try.prog e 26 _ _ _) a w hm)))
          refine T_reg_end [] [0,1,12,13] [(13,dI (IntKind.i64.wrap (v1 + (1 : Int))))] [] 2 (by kernel_rfl) (trivial) fun a w hm => then_norm (⟨IntKind.i64.wrap (v1 + (1 : Int)),h,hm.co (cs := [.keep [0,1,12,13]]) (by show _ = _; kernel_rfl)⟩)
      · have h := cond_ff hc h
        obtain hs := Option.some.inj h; subst hs
        refine T_exit fun a w hm => then_exit (then_exit (inBlock_exit (then_norm (⟨_,rfl,hm.co (cs := [.keep []]) (by show _ = _; kernel_rfl)⟩))))
    · skip
      refine fun a w hm => then_norm (((?_ : T Try.prog e 26 _ _ _) a w hm))
      refine T_reg [] [4] [(4,dB true)] [] 1 (by kernel_rfl) (trivial) ?_
      obtain hs := Option.some.inj h; subst hs
      refine T_ret fun a w hm => T_return (fr' := [(4,dB true)]) [4] (by kernel_rfl) [.keep [4]] (by kernel_rfl) (by kernel_rfl) (by kernel_rfl) (by show _ = _; kernel_rfl) (by exact trivial) a w hm
theorem law3_imposeFact_ok {F : Nat}  {r : Bool} (h : law3_imposeFact F  = some r) : ACall Try.prog 12 [] [] (.d (.v (.bool r))) [] := by
  rw [law3_imposeFact] at h
  refine ACall.intro (N := 37) Try.func12 rfl rfl rfl rfl rfl fun e => ?_
  refine T_reg [] [] [] [] 1 (by kernel_rfl) (trivial) ?_
  obtain ⟨y1,hy1,h⟩ := call_ok h
  obtain ⟨y2,hy2,h⟩ := call_ok h
  refine T_reg [(0,{ res := .agg (cS_FoldScheme y1) }),(2,{ res := .tup [.agg (cS_ImposeSheet y2.1),dI y2.2] })] [1,2] [(1,bx_ImposeSheet y2.1),(2,dI y2.2)] [(0,ACall Try.prog 27 [] [] (.agg (cS_FoldScheme y1)) []),(1,ACall Try.prog 26 [.agg (cS_ImposeLayout (S_ImposeLayout.mk y1 (10 : Int) (10 : Int) 0 0 0 0 0 0)),dI (4 : Int)] [] (.tup [.agg (cS_ImposeSheet y2.1),dI y2.2]) [])] 6 (by kernel_rfl) (⟨law3_once_ok hy1,impose_Sheet_ok hy2⟩) ?_
  obtain ⟨z1,hz1,h⟩ := lett_ok h
  obtain ⟨y3,hy3,h⟩ := call_ok h
  obtain ⟨y4,hy4,h⟩ := call_ok h
  refine T_reg [(11,{ rw := some (dB z1) }),(17,{ es := some (([(S_ImposePlace.mk (2 : Int) 0 0 0),(S_ImposePlace.mk (3 : Int) (10 : Int) 0 0)]).map cS_ImposePlace) }),(18,{ res := dB y3 }),(25,{ es := some (([(S_ImposePlace.mk (1 : Int) (10 : Int) 0 0),(S_ImposePlace.mk (4 : Int) 0 0 0)]).map cS_ImposePlace) }),(26,{ res := dB y4 })] [0] [(0,dB (bif (bif z1 then y3 else false) then y4 else false))] [(3,((((y2.2 == (0 : Int)) == true) && true) = true → True)),(0,((((y2.2 == (0 : Int)) == true) && true) = true → True)),(0,((((y2.2 == (0 : Int)) == true) && true) = true → True)),(2,((((bif (y2.2 == (0 : Int)) then (y2.1.f0 == (20 : Int)) else false) == true) && true) = true → True)),(0,((((bif (y2.2 == (0 : Int)) then (y2.1.f0 == (20 : Int)) else false) == true) && true) = true → True)),(0,((((bif (y2.2 == (0 : Int)) then (y2.1.f0 == (20 : Int)) else false) == true) && true) = true → True)),(0,(True) ∧ dB (bif (bif (y2.2 == (0 : Int)) then (y2.1.f0 == (20 : Int)) else false) then (y2.1.f1 == (10 : Int)) else false) = dB z1),(1,(((z1 == true) && true) = true → True)),(0,(((z1 == true) && true) = true → True)),(0,(((z1 == true) && true) = true → True)),(0,(((z1 == true) && true) = true → True)),(0,(((z1 == true) && true) = true → (([(S_ImposePlace.mk (2 : Int) 0 0 0),(S_ImposePlace.mk (3 : Int) (10 : Int) 0 0)]).map cS_ImposePlace) = (([(S_ImposePlace.mk (2 : Int) 0 0 0),(S_ImposePlace.mk (3 : Int) (10 : Int) 0 0)]).map cS_ImposePlace))),(0,(((z1 == true) && true) = true → ACall Try.prog 28 [.d (.sl 4 (y2.1.f2.map cS_ImposePlace)),.d (.sl 4 (([(S_ImposePlace.mk (2 : Int) 0 0 0),(S_ImposePlace.mk (3 : Int) (10 : Int) 0 0)]).map cS_ImposePlace))] [] (dB y3) [])),(2,((((bif z1 then y3 else false) == true) && true) = true → True)),(0,((((bif z1 then y3 else false) == true) && true) = true → True)),(0,((((bif z1 then y3 else false) == true) && true) = true → True)),(0,((((bif z1 then y3 else false) == true) && true) = true → True)),(0,((((bif z1 then y3 else false) == true) && true) = true → (([(S_ImposePlace.mk (1 : Int) (10 : Int) 0 0),(S_ImposePlace.mk (4 : Int) 0 0 0)]).map cS_ImposePlace) = (([(S_ImposePlace.mk (1 : Int) (10 : Int) 0 0),(S_ImposePlace.mk (4 : Int) 0 0 0)]).map cS_ImposePlace))),(0,((((bif z1 then y3 else false) == true) && true) = true → ACall Try.prog 28 [.d (.sl 4 (y2.1.f3.map cS_ImposePlace)),.d (.sl 4 (([(S_ImposePlace.mk (1 : Int) (10 : Int) 0 0),(S_ImposePlace.mk (4 : Int) 0 0 0)]).map cS_ImposePlace))] [] (dB y4) []))] 2 (by kernel_rfl) (⟨(fun hg => trivial),(fun hg => trivial),(fun hg => trivial),(fun hg => trivial),(fun hg => trivial),(fun hg => trivial),⟨trivial,(by subst hz1; rfl)⟩,(fun hg => trivial),(fun hg => trivial),(fun hg => trivial),(fun hg => trivial),(fun hg => rfl),(fun hg => slices_Equal_ImposePlace_ok (gcall_ok hg hy3)),(fun hg => trivial),(fun hg => trivial),(fun hg => trivial),(fun hg => trivial),(fun hg => rfl),(fun hg => slices_Equal_ImposePlace_ok (gcall_ok hg hy4))⟩) ?_
  obtain hs := Option.some.inj h; subst hs
  refine T_ret fun a w hm => T_return (fr' := [(0,dB (bif (bif z1 then y3 else false) then y4 else false))]) [0] (by kernel_rfl) [.keep [0]] (by kernel_rfl) (by kernel_rfl) (by kernel_rfl) (by show _ = _; kernel_rfl) (by exact trivial) a w hm
theorem law3_tiny_c1_ok {F : Nat} {a0 : Int} {a1 : Int} {r : Int} (h : law3_tiny_c1 F a0 a1 = some r) : ACall Try.prog 29 [.d (.v (.int .i64 a0)),.d (.v (.int .i64 a1))] [] (.d (.v (.int .i64 r))) [] := by
  rw [law3_tiny_c1] at h
  refine ACall.intro (N := 16) Try.func29 rfl rfl rfl rfl rfl fun e => ?_
  refine T_reg [] [0,1] [] [] 1 (by kernel_rfl) (trivial) ?_
  refine T_seqk ?_
  refine T_reg [] [0,1,10] [(10,dB (bif (decide (a0 < (0 : Int))) then true else (decide (a0 > (64 : Int)))))] [(3,((((decide (a0 < (0 : Int))) == false) && true) = true → True)),(0,((((decide (a0 < (0 : Int))) == false) && true) = true → True))] 1 (by kernel_rfl) (⟨(fun hg => trivial),(fun hg => trivial)⟩) ?_
  refine T_cond (bif (decide (a0 < (0 : Int))) then true else (decide (a0 > (64 : Int)))) (by kernel_rfl) (fun hc => ?_) (fun hc => ?_)
  · have h := cond_tt hc h
    refine T_reg [] [4] [(4,dI a0)] [] 2 (by kernel_rfl) (trivial) ?_
    obtain hs := Option.some.inj h; subst hs
    refine T_ret fun a w hm => then_ret (T_return (fr' := [(4,dI a0)]) [4] (by kernel_rfl) [.keep [4]] (by kernel_rfl) (by kernel_rfl) (by kernel_rfl) (by show _ = _; kernel_rfl) (by exact trivial) a w hm)
  · have h := cond_ff hc h
    refine T_skip fun a w hm => then_norm (((?_ : T Try.prog e 16 _ _ _) a w hm))
    obtain ⟨hp1,h⟩ := chk_ok h
    refine T_reg [] [4] [(4,dI (a0.tmod (IntKind.i64.wrap (a1 + (1 : Int)))))] [(3,(IntKind.i64.wrap (a1 + (1 : Int))) ≠ 0)] 1 (by kernel_rfl) (hp1) ?_
    obtain hs := Option.some.inj h; subst hs
    refine T_ret fun a w hm => T_return (fr' := [(4,dI (a0.tmod (IntKind.i64.wrap (a1 + (1 : Int)))))]) [4] (by kernel_rfl) [.keep [4]] (by kernel_rfl) (by kernel_rfl) (by kernel_rfl) (by show _ = _; kernel_rfl) (by exact trivial) a w hm
set_option maxHeartbeats 8000000 in
set_option maxRecDepth 100000 in
theorem law3_tiny_ok {F : Nat} {a0 : S_ImposeLayout} {r : S_ImposeLayout} (h : law3_tiny F a0 = some r) : ACall Try.prog 13 [.agg (cS_ImposeLayout a0)] [] (.agg (cS_ImposeLayout r)) [] := by
  rw [law3_tiny] at h
  refine ACall.intro (N := 35) Try.func13 rfl rfl rfl rfl rfl fun e => ?_
  refine T_reg [] [1,2] [(1,bx_ImposeLayout a0),(2,.box [dI 0,dI 0,oW0 [],dI 0,dI 0,dI 0,dI 0,dI 0,dI 0,dI 0,dI 0])] [] 2 (by kernel_rfl) (trivial) ?_
  refine T_reg [] [1,2,3] [(3,.clo 29 [])] [] 1 (by kernel_rfl) (trivial) ?_
  obtain ⟨y1,hy1,h⟩ := call_ok h
  obtain ⟨y2,hy2,h⟩ := call_ok h
  obtain ⟨y3,hy3,h⟩ := call_ok h
  obtain ⟨y4,hy4,h⟩ := call_ok h
  obtain ⟨y5,hy5,h⟩ := call_ok h
  refine T_drawG mixed [(30,0,some 0),(29,1,some 1),(28,3,some 4),(27,19,some 5),(26,51,some 8),(25,307,some 9),(24,819,some 12),(23,4915,some 13),(22,13107,some 16),(21,78643,some 17),(20,209715,none),(19,209719,none),(19,209779,none),(19,210739,none),(19,226099,none),(19,471859,none),(18,209727,none),(18,209783,none),(18,210743,none),(18,210803,none),(18,226103,none),(18,226163,none),(18,227123,none),(18,471863,none),(18,471923,none),(18,472883,none),(18,488243,none),(17,209791,none),(17,210751,none),(17,210807,none),(17,226111,none),(17,226167,none),(17,227127,none),(17,227187,none),(17,471871,none),(17,471927,none),(17,472887,none),(17,472947,none),(17,488247,none),(17,488307,none),(17,489267,none),(16,209919,none),(16,210815,none),(16,226175,none),(16,227135,none),(16,227191,none),(16,471935,none),(16,472895,none),(16,472951,none),(16,488255,none),(16,488311,none),(16,489271,none),(16,489331,none),(15,210943,none),(15,226303,none),(15,227199,none),(15,472063,none),(15,472959,none),(15,488319,none),(15,489279,none),(15,489335,none),(14,212991,none),(14,227327,none),(14,473087,none),(14,488447,none),(14,489343,some 20),(13,229375,none),(13,475135,none),(13,489471,some 20),(13,1537919,none),(12,262143,none),(12,491519,some 20),(12,1538047,none),(11,524287,some 20),(11,1540095,none),(10,1572863,none),(9,2097151,none),(8,4194303,some 22),(7,8388607,none),(6,16777215,some 24),(5,33554431,none),(4,67108863,some 26),(3,134217727,none),(2,268435455,some 28),(1,536870911,none),(0,1073741823,none)] [(30,1,.box [dI a0.f0.f0,dI a0.f0.f1,.d (.sl 3 (a0.f0.f2.map cS_FoldStep)),dI y1,dI y2,dI y3,dI y4,dI a0.f5,dI y5,dI a0.f7,dI a0.f8]),(29,28,.bp 1 8),(28,1,.box [dI a0.f0.f0,dI a0.f0.f1,.d (.sl 3 (a0.f0.f2.map cS_FoldStep)),dI y1,dI y2,dI y3,dI y4,dI a0.f5,dI a0.f6,dI a0.f7,dI a0.f8]),(27,27,.bp 1 6),(26,1,.box [dI a0.f0.f0,dI a0.f0.f1,.d (.sl 3 (a0.f0.f2.map cS_FoldStep)),dI y1,dI y2,dI y3,dI a0.f4,dI a0.f5,dI a0.f6,dI a0.f7,dI a0.f8]),(25,26,.bp 1 5),(24,1,.box [dI a0.f0.f0,dI a0.f0.f1,.d (.sl 3 (a0.f0.f2.map cS_FoldStep)),dI y1,dI y2,dI a0.f3,dI a0.f4,dI a0.f5,dI a0.f6,dI a0.f7,dI a0.f8]),(23,25,.bp 1 4),(22,1,.box [dI a0.f0.f0,dI a0.f0.f1,.d (.sl 3 (a0.f0.f2.map cS_FoldStep)),dI y1,dI a0.f2,dI a0.f3,dI a0.f4,dI a0.f5,dI a0.f6,dI a0.f7,dI a0.f8]),(21,24,.bp 1 3),(20,23,dI y5),(19,22,dI a0.f6),(18,21,.bp 1 8),(17,20,.clo 29 []),(16,19,dI y4),(15,18,dI a0.f4),(14,17,.bp 1 6),(13,16,.clo 29 []),(12,15,dI y3),(11,14,dI a0.f3),(10,13,.bp 1 5),(9,12,.clo 29 []),(8,11,dI y2),(7,10,dI a0.f2),(6,9,.bp 1 4),(5,8,.clo 29 []),(4,7,dI y1),(3,6,dI a0.f1),(2,5,.bp 1 3),(1,4,.clo 29 []),(0,1,bx_ImposeLayout a0),(0,2,.box [dI 0,dI 0,oW0 [],dI 0,dI 0,dI 0,dI 0,dI 0,dI 0,dI 0,dI 0]),(0,3,.clo 29 [])] [1,2,3,4,5,6,7,8,9,10,11,12,13,14,15,16,17,18,19,20,21,22,23,24,25,26,27,28] ([0,0,2,5,0,0,32,88,0,0,512,1408,0,0,8192,22528,0,0,131072,360448,419439,1992303,3565311,7759615,16150527,32927743,66519039,133627903,268435455,536870911],[0,0,2,5,0,0,32,80,0,0,512,1280,0,0,8192,20480,0,0,131072,327680,0,1048584,0,4194432,0,16779264,0,67141632,0,268959744]) 357774131 [(3,{ res := dI y1 }),(7,{ res := dI y2 }),(11,{ res := dI y3 }),(15,{ res := dI y4 }),(19,{ res := dI y5 })] [1,2,3] [] [(1,.box [dI a0.f0.f0,dI a0.f0.f1,.d (.sl 3 (a0.f0.f2.map cS_FoldStep)),dI y1,dI y2,dI y3,dI y4,dI a0.f5,dI y5,dI a0.f7,dI a0.f8]),(2,.box [dI 0,dI 0,oW0 [],dI 0,dI 0,dI 0,dI 0,dI 0,dI 0,dI 0,dI 0]),(3,.clo 29 [])] ((fun (o3 : Prop) => fun (o7 : Prop) => fun (o11 : Prop) => fun (o15 : Prop) => fun (o19 : Prop) => [(15,o3),(24,o3),(3,o3),(6,o3),(9,o3),(12,o7),(6,o3),(5,o3),(2,o3),(7,o3),(2,o3),(4,o3),(9,o7),(2,o7),(4,o3),(1,o7),(4,o3),(3,o3),(1,o3),(2,o11),(4,o7),(3,o7),(1,o7),(2,o3),(2,o11),(1,o11),(3,o15),(3,o7),(2,o11),(1,o15),(0,o19)]) (ACall Try.prog 29 [dI a0.f1,dI (6 : Int)] [] (dI y1) []) (ACall Try.prog 29 [dI a0.f2,dI (6 : Int)] [] (dI y2) []) (ACall Try.prog 29 [dI a0.f3,dI (2 : Int)] [] (dI y3) []) (ACall Try.prog 29 [dI a0.f4,dI (2 : Int)] [] (dI y4) []) (ACall Try.prog 29 [dI a0.f6,dI (3 : Int)] [] (dI y5) [])) 9 (by kernel_rfl) (by kernel_rfl) (by kernel_rfl) (by kernel_rfl) (by kernel_rfl) (by kernel_rfl) (have p3 := law3_tiny_c1_ok hy1; have p7 := law3_tiny_c1_ok hy2; have p11 := law3_tiny_c1_ok hy3; have p15 := law3_tiny_c1_ok hy4; have p19 := law3_tiny_c1_ok hy5; ⟨p3,p3,p3,p3,p3,p7,p3,p3,p3,p3,p3,p3,p7,p7,p3,p7,p3,p3,p3,p11,p7,p7,p7,p3,p11,p11,p15,p7,p11,p15,p19⟩) ?_
  obtain ⟨y6,hy6,h⟩ := call_ok h
  refine T_reg [(3,{ res := dI y6 })] [1,2] [(1,.box [dI a0.f0.f0,dI a0.f0.f1,.d (.sl 3 (a0.f0.f2.map cS_FoldStep)),dI y1,dI y2,dI y3,dI y4,dI y6,dI y5,dI a0.f7,dI a0.f8])] [(3,ACall Try.prog 29 [dI a0.f5,dI (12 : Int)] [] (dI y6) [])] 2 (by kernel_rfl) (law3_tiny_c1_ok hy6) ?_
  refine T_reg [] [2] [(2,.box [dI a0.f0.f0,dI a0.f0.f1,.d (.sl 3 (a0.f0.f2.map cS_FoldStep)),dI y1,dI y2,dI y3,dI y4,dI y6,dI y5,dI a0.f7,dI a0.f8])] [] 2 (by kernel_rfl) (trivial) ?_
  obtain hs := Option.some.inj h; subst hs
  refine T_ret fun a w hm => T_returnC (fr' := [(2,.box [dI a0.f0.f0,dI a0.f0.f1,.d (.sl 3 (a0.f0.f2.map cS_FoldStep)),dI y1,dI y2,dI y3,dI y4,dI y6,dI y5,dI a0.f7,dI a0.f8])]) (ts := [35]) (N' := 36) (fr2 := [(35,.agg (cS_ImposeLayout (S_ImposeLayout.mk a0.f0 y1 y2 y3 y4 y6 y5 a0.f7 a0.f8)))] ++ [(2,.box [dI a0.f0.f0,dI a0.f0.f1,.d (.sl 3 (a0.f0.f2.map cS_FoldStep)),dI y1,dI y2,dI y3,dI y4,dI y6,dI y5,dI a0.f7,dI a0.f8])]) [.keep [2]] (by kernel_rfl) (by kernel_rfl) (by kernel_rfl) (by kernel_rfl) (by show _ = _; kernel_rfl) (by exact trivial) a w hm
end Go.Vm.BinG
