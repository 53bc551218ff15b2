/-
  IMPOSE,PLAIN: the check of a layout.
-/
import Derived.Test.YteidenpelbooeaaBinLg
namespace Go.Vm.BinG
theorem size_eq {F:Nat} (a0:S_ImposeLayout) (PG:List S_FoldPage) (hpos:0 < PG.length) (h8:fold_Pages F a0.f0=some (PG,0)) (h9:ref3_Read F a0.f0=some (PG,0)):∃ z:Int×Int,impose_size F a0=some z∧ref3_PlateSize F a0=some z:=by
  have hc:(0:Int)≤(0:Int)∧(0:Int) < PG.length:=by omega
  obtain ⟨y,e52,e54⟩:∃ y,impose_leaf F a0=some y∧ref3_leafSize F a0=some y:=by
    unfold impose_leaf ref3_leafSize
    rw [h8,h9,call_some]
    simp only
    rw [chk_pos hc]
    cases ((((PG.getD (0:Int).toNat (S_FoldPage.mk false 0 0 0)).f3).tmod (2:Int)) == (1:Int)) <;> exact ⟨_,rfl,rfl⟩
  obtain ⟨z,e48,e49⟩:∃ z,impose_single F a0=some z∧ref3_SingleSize F a0=some z:=by
    unfold impose_single ref3_SingleSize
    rw [e52,e54,call_some,call_some]
    refine ⟨_,rfl,?_⟩
    rw [Int.add_comm (IntKind.i64.wrap (a0.f0.f0 * y.1)),Int.add_comm (IntKind.i64.wrap (a0.f0.f1 * y.2))]
  unfold impose_size ref3_PlateSize
  rw [e48,e49,call_some,call_some]
  rw [Int.mul_comm z.1 2,Int.mul_comm z.2 2]
  cases (a0.f8 == (1:Int)) <;> cases (a0.f8 == (2:Int)) <;> exact ⟨_,rfl,rfl⟩
theorem loop_eq {F n:Nat} (a0:S_ImposeLayout):impose_Check_L0 F a0 (n+1000) 0=some (if 0≤a0.f3∧a0.f3≤64∧0≤a0.f4∧a0.f4≤64∧0≤a0.f5∧a0.f5≤64∧0≤a0.f6∧a0.f6≤64 then .go () else .esc 3):=by
  have step:∀ (x:Int) (r:Option (Out Unit Int)),(bif (bif (decide (x < (0:Int))) then true else (decide (x > (64:Int)))) then some (.esc (3:Int)) else r)=if 0≤x∧x≤64 then r else some (.esc (3:Int)):=by
    intro x r
    by_cases h1:x < 0
    · rw [if_neg (by omega)]; simp [h1]
    · by_cases h2:x > 64
      · rw [if_neg (by omega)]; simp [h2]
      · rw [if_pos (by omega)]; simp [h1,h2]
  have w0:IntKind.i64.wrap (0+1)=1:=by decide
  have w1:IntKind.i64.wrap (1+1)=2:=by decide
  have w2:IntKind.i64.wrap (2+1)=3:=by decide
  have w3:IntKind.i64.wrap (3+1)=4:=by decide
  have e4:impose_Check_L0 F a0 (n+996) 4=some (.go ()):=rfl
  have e3:impose_Check_L0 F a0 (n+997) 3=if 0≤a0.f6∧a0.f6≤64 then some (.go ()) else some (.esc 3):=by
    rw [impose_Check_L0,show decide ((3:Int) < 4)=true from rfl,cond_true,chk_pos (by omega),lett_eq,w3,e4]
    exact step _ _
  have e2:impose_Check_L0 F a0 (n+998) 2=if 0≤a0.f5∧a0.f5≤64 then (if 0≤a0.f6∧a0.f6≤64 then some (.go ()) else some (.esc 3)) else some (.esc 3):=by
    rw [impose_Check_L0,show decide ((2:Int) < 4)=true from rfl,cond_true,chk_pos (by omega),lett_eq,w2,e3]
    exact step _ _
  have e1:impose_Check_L0 F a0 (n+999) 1=if 0≤a0.f4∧a0.f4≤64 then (if 0≤a0.f5∧a0.f5≤64 then (if 0≤a0.f6∧a0.f6≤64 then some (.go ()) else some (.esc 3)) else some (.esc 3)) else some (.esc 3):=by
    rw [impose_Check_L0,show decide ((1:Int) < 4)=true from rfl,cond_true,chk_pos (by omega),lett_eq,w1,e2]
    exact step _ _
  rw [impose_Check_L0,show decide ((0:Int) < 4)=true from rfl,cond_true,chk_pos (by omega),lett_eq,w0,e1]
  refine (step _ _).trans ?_
  split <;> split <;> (try split) <;> (try split) <;> (try split) <;> first | rfl | (exfalso; simp at *; omega) | skip
theorem or_cond (a b:Bool):(bif a then true else b)=(a || b):=by cases a <;> rfl
theorem ex_cond {α:Type} {b:Bool} {x y:Option α} (h1:∃ e,x=some e) (h2:∃ e,y=some e):∃ e,(bif b then x else y)=some e:=by
  cases b
  · exact h2
  · exact h1
/-- Check finds what the reference finds; without an error the pages are placed. -/
theorem check_main {F:Nat} (hF:1000≤F) (a0:S_ImposeLayout):∃ e,impose_Check F a0=some e∧ref3_LayoutError F a0=some e ∧
    (e=0→∃ (C R:Nat) (PG:List S_FoldPage),a0.f0.f0=C∧a0.f0.f1=R∧(1≤C∧C≤8)∧(1≤R∧R≤8)∧R * C≤32∧PG.length=2 * (R * C)∧fold_Pages F a0.f0=some (PG,0)∧ref3_Read F a0.f0=some (PG,0) ∧
      ∃ (L:List Lf) (I:List Nat) (turn:Int),PG=(I.map (leafOf C L)).flatMap (pgs C turn)∧I.Perm (List.range (R * C))∧0≤turn∧turn≤3):=by
    rcases same hF a0.f0 with ⟨e,he,h11,h8,h9⟩ | ⟨C,R,PG,hC,hR,hC8,hR8,hRC,hPG,h11,h8,h9,hex⟩
    · have hne:(e != (0:Int))=true:=by simpa using he
      refine ⟨e,?_,?_,fun h=>absurd h he⟩
      · unfold impose_Check
        rcases h11 with h11 | h11
        · rw [h11,call_some,hne,cond_true]
        · rw [h11,call_some,show ((0:Int) != 0)=false from rfl,cond_false,h8,call_some]
          simp only [hne,cond_true]
      · unfold ref3_LayoutError
        rw [h9,call_some]
        simp only [hne,cond_true]
    · have hpos:0 < PG.length:=by rw [hPG]; have:=Nat.mul_le_mul hR8.1 hC8.1; omega
      obtain ⟨z,h41,h42⟩:=size_eq a0 PG hpos h8 h9
      have hRC':(1:Int)≤(C:Int) * R∧(C:Int) * R≤32:=by
        have:=Nat.mul_le_mul hR8.1 hC8.1
        rw [Nat.mul_comm R C] at hRC this
        constructor
        · exact_mod_cast this
        · exact_mod_cast hRC
      have hz:IntKind.i64.wrap ((IntKind.i64.wrap ((IntKind.i64.wrap ((C:Int) * R)) - (1:Int))).tdiv (2:Int))=IntKind.i64.wrap ((IntKind.i64.wrap ((IntKind.i64.wrap ((PG.length:Int).tdiv (2:Int))) - (1:Int))).tdiv (2:Int)):=by
        congr 3
        have e1:(PG.length:Int).tdiv 2=(C:Int) * R:=by
          rw [hPG]
          rw [show ((2 * (R * C):Nat):Int)=((C:Int) * R) * 2 from by push_cast; rw [Int.mul_comm (C:Int) R]; omega]
          exact Int.mul_tdiv_cancel _ (by decide)
        rw [e1]
      have key:∀ X:Option Int,callE (some (if 0≤a0.f3∧a0.f3≤64∧0≤a0.f4∧a0.f4≤64∧0≤a0.f5∧a0.f5≤64∧0≤a0.f6∧a0.f6≤64 then Out.go () else Out.esc (3:Int))) (fun e=>some e) (fun _=>X) =
          bif (((((((decide (a0.f3 < 0) || decide (a0.f4 < 0)) || decide (a0.f5 < 0)) || decide (a0.f6 < 0)) || decide (a0.f3 > 64)) || decide (a0.f4 > 64)) || decide (a0.f5 > 64)) || decide (a0.f6 > 64)) then some 3 else X:=by
        intro X
        split
        · rename_i h
          have:(((((((decide (a0.f3 < 0) || decide (a0.f4 < 0)) || decide (a0.f5 < 0)) || decide (a0.f6 < 0)) || decide (a0.f3 > 64)) || decide (a0.f4 > 64)) || decide (a0.f5 > 64)) || decide (a0.f6 > 64))=false:=by
            simp only [Bool.or_eq_false_iff,decide_eq_false_iff_not]
            omega
          rw [this]; rfl
        · rename_i h
          have:(((((((decide (a0.f3 < 0) || decide (a0.f4 < 0)) || decide (a0.f5 < 0)) || decide (a0.f6 < 0)) || decide (a0.f3 > 64)) || decide (a0.f4 > 64)) || decide (a0.f5 > 64)) || decide (a0.f6 > 64))=true:=by
            simp only [Bool.or_eq_true,decide_eq_true_eq]
            omega
          rw [this]; rfl
      have hh:impose_Check F a0=ref3_LayoutError F a0:=by
        obtain ⟨n,hn⟩:∃ n,F=n+1000:=⟨F - 1000,by omega⟩
        have hloop:=loop_eq (F:=F) (n:=n) a0
        rw [← hn] at hloop
        unfold impose_Check ref3_LayoutError
        rw [h11,call_some,show ((0:Int) != 0)=false from rfl,cond_false,h8,call_some,h9,call_some]
        simp only [show ((0:Int) != 0)=false from rfl,cond_false,hloop,h41,h42,call_some,lett_eq,hC,hR,hz,or_cond]
        rw [key]
        simp only [Int.mul_comm a0.f7]
      obtain ⟨e,h23⟩:∃ e,ref3_LayoutError F a0=some e:=by
        unfold ref3_LayoutError
        rw [h9,call_some,h42]
        simp only [lett_eq,call_some]
        refine ex_cond ⟨_,rfl⟩ (ex_cond ⟨_,rfl⟩ (ex_cond ⟨_,rfl⟩ (ex_cond ⟨_,rfl⟩ (ex_cond ⟨_,rfl⟩ (ex_cond ⟨_,rfl⟩ (ex_cond ⟨_,rfl⟩ ⟨_,rfl⟩))))))
      exact ⟨e,hh.trans h23,h23,fun _=>⟨C,R,PG,hC,hR,hC8,hR8,hRC,hPG,h8,h9,hex⟩⟩
end Go.Vm.BinG
