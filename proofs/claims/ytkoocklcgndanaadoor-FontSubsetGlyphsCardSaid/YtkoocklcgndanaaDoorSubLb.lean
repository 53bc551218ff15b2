/-
  FONT,PLAIN,part 2: the tables: the first error is the reference's.
-/
import Derived.Test.YtkoocklcgndanaaDoorSubLa
namespace Go.Vm.SubG
/-- A range's test. -/
def rngF (n:Int) (l:List S_FontRange) (i:Nat) (x:S_FontRange) (_:Unit):Unit ⊕ Out Unit Int :=
 if (decide (x.f0 < 0) || decide (x.f1 < x.f0)) || decide (x.f1 > 1114111) then .inr (.esc 3)
 else if (decide (x.f2 < 0) || decide (x.f2 ≥ n)) || decide (x.f2+x.f1 - x.f0 ≥ n) then .inr (.esc 8)
 else if decide (0 < i) && decide (x.f0≤(l.getD (i - 1) (S_FontRange.mk 0 0 0)).f1) then .inr (.esc 18) else .inl ()
def rngOut (n:Int) (l:List S_FontRange):Out Unit Int:=runT (rngF n l) (fun _=>.go ()) 0 l ()
theorem tables_L0 (F:Nat) (a0:S_Font) (hn:a0.f1.length≤1000) (hl:a0.f2.length < F) (hl2:a0.f2.length≤1000):font_tables_L0 F a0 F 0=some (rngOut (a0.f1.length:Int) a0.f2):=by
 refine range_tot a0.f2 (fun n (_:Unit) i=>font_tables_L0 F a0 n i) (rngF (a0.f1.length:Int) a0.f2) (fun _=>.go ()) (fun _ _=>True) (fun n s i x hx _=>?_) (fun n s _=>by simp only [font_tables_L0,dec_end,cond_false]) F hl () trivial
 have hi:=lt_of_get hx
 refine ⟨?_,fun _ _=>trivial⟩
 simp only [font_tables_L0,dec_lt hi,cond_true,chk_in hi,lett_eq,Int.toNat_natCast,getD_of hx,wrap_succ (show i < 9223372036854775807 by omega),or_cond]
 unfold rngF
 cases h1:(decide (x.f0 < 0) || decide (x.f1 < x.f0)) || decide (x.f1 > 1114111)
 ·have b1:0≤x.f0∧x.f0≤x.f1∧x.f1≤1114111:=by
   simp only [Bool.or_eq_false_iff,decide_eq_false_iff_not] at h1
   omega
  cases h2:decide (x.f2 < 0) || decide (x.f2 ≥ (a0.f1.length:Int))
  ·have b2:0≤x.f2∧x.f2 < (a0.f1.length:Int):=by
    simp only [Bool.or_eq_false_iff,decide_eq_false_iff_not] at h2
    omega
   rw [show IntKind.i64.wrap (IntKind.i64.wrap (x.f2+x.f1) - x.f0)=x.f2+x.f1 - x.f0 by rw [wrap_id (x:=x.f2+x.f1) (by omega),wrap_id (by omega)]]
   cases h3:decide (x.f2+x.f1 - x.f0 ≥ (a0.f1.length:Int))
   ·by_cases h0:0 < i
    ·have hd:decide ((i:Int) > 0)=true:=by simpa using h0
     rw [wrap_pred h0 (by omega)]
     simp only [hd,cond_true,cond_false,Int.toNat_natCast,Bool.or_false]
     rw [chk_pos (fun _=>by omega)]
     simp only [h0,decide_true,Bool.true_and]
     cases decide (x.f0≤(a0.f2.getD (i - 1) (S_FontRange.mk 0 0 0)).f1) <;> rfl
    ·have hd:decide ((i:Int) > 0)=false:=by simpa using h0
     simp only [hd,cond_false,Bool.or_false]
     rw [chk_pos (by simp)]
     simp [h0]
   ·simp
  ·simp
 ·simp
theorem mapError_L0 (F:Nat) (a0:S_Font) (hn:a0.f1.length≤1000) (hl:a0.f2.length < F) (hl2:a0.f2.length≤1000):ref3_mapError_L0 F a0 F 0=some (rngOut (a0.f1.length:Int) a0.f2):=by
 refine range_tot a0.f2 (fun n (_:Unit) i=>ref3_mapError_L0 F a0 n i) (rngF (a0.f1.length:Int) a0.f2) (fun _=>.go ()) (fun _ _=>True) (fun n s i x hx _=>?_) (fun n s _=>by simp only [ref3_mapError_L0,dec_end,cond_false]) F hl () trivial
 have hi:=lt_of_get hx
 refine ⟨?_,fun _ _=>trivial⟩
 simp only [ref3_mapError_L0,dec_lt hi,cond_true,chk_in hi,lett_eq,Int.toNat_natCast,getD_of hx,wrap_succ (show i < 9223372036854775807 by omega),or_cond]
 unfold rngF
 cases h1:(decide (x.f0 < 0) || decide (x.f1 < x.f0)) || decide (x.f1 > 1114111)
 ·have b1:0≤x.f0∧x.f0≤x.f1∧x.f1≤1114111:=by
   simp only [Bool.or_eq_false_iff,decide_eq_false_iff_not] at h1
   omega
  cases h2:decide (x.f2 < 0) || decide (x.f2 ≥ (a0.f1.length:Int))
  ·have b2:0≤x.f2∧x.f2 < (a0.f1.length:Int):=by
    simp only [Bool.or_eq_false_iff,decide_eq_false_iff_not] at h2
    omega
   rw [show decide (IntKind.i64.wrap (x.f1 - x.f0) ≥ IntKind.i64.wrap ((a0.f1.length:Int) - x.f2))=decide (x.f2+x.f1 - x.f0 ≥ (a0.f1.length:Int)) by
    rw [wrap_id (x:=x.f1 - x.f0) (by omega),wrap_id (by omega)]
    exact decide_eq_decide.2 (by omega)]
   cases h3:decide (x.f2+x.f1 - x.f0 ≥ (a0.f1.length:Int))
   ·by_cases h0:0 < i
    ·have hd:decide ((i:Int) > 0)=true:=by simpa using h0
     rw [wrap_pred h0 (by omega)]
     simp only [hd,cond_true,cond_false,Int.toNat_natCast,Bool.or_false]
     rw [chk_pos (fun _=>by omega)]
     simp only [h0,decide_true,Bool.true_and]
     rw [show decide ((a0.f2.getD (i - 1) (S_FontRange.mk 0 0 0)).f1 ≥ x.f0)=decide (x.f0≤(a0.f2.getD (i - 1) (S_FontRange.mk 0 0 0)).f1) from rfl]
     cases decide (x.f0≤(a0.f2.getD (i - 1) (S_FontRange.mk 0 0 0)).f1) <;> rfl
    ·have hd:decide ((i:Int) > 0)=false:=by simpa using h0
     simp only [hd,cond_false,Bool.or_false]
     rw [chk_pos (by simp)]
     simp [h0]
   ·simp
  ·simp
 ·simp
/-! ### Kerning pairs -/
def cmpI (a b:Int):Int:=if a < b then -1 else if a > b then 1 else 0
def cmpP (p q:S_FontPair):Int:=if cmpI p.f0 q.f0 != 0 then cmpI p.f0 q.f0 else cmpI p.f1 q.f1
theorem compare_eq (F:Nat) (a b:Int):cmp_Compare_int F a b=some (cmpI a b):=by
 unfold cmp_Compare_int cmp_isNaN_int cmpI
 simp only [call_some,bne_self_eq_false,cond_false]
 by_cases h1:a < b
 ·simp [h1]
 ·by_cases h2:a > b
  ·simp [h1,h2]
  ·simp [h1,h2]
theorem or_eq (F:Nat) (a b:Int) (hF:3≤F):cmp_Or_int F [a,b]=some (if a != 0 then a else b):=by
 obtain ⟨k,rfl⟩:∃ k,F=k+3:=⟨F - 3,by omega⟩
 unfold cmp_Or_int
 rw [cmp_Or_int_L0]
 simp only [List.length_cons,List.length_nil,show (((0+1+1:Nat):Int))=2 from rfl,show decide ((0:Int) < 2)=true from rfl,cond_true,show (0:Int).toNat=0 from rfl,List.getD_cons_zero]
 rw [chk_pos (by omega)]
 by_cases h:a=0
 ·subst h
  simp only [bne_self_eq_false,cond_false,show IntKind.i64.wrap (0+1)=1 from by decide]
  rw [cmp_Or_int_L0]
  simp only [List.length_cons,List.length_nil,show (((0+1+1:Nat):Int))=2 from rfl,show decide ((1:Int) < 2)=true from rfl,cond_true,show (1:Int).toNat=1 from rfl,List.getD_cons_zero,List.getD_cons_succ]
  rw [chk_pos (by omega)]
  by_cases h2:b=0
  ·subst h2
   simp only [bne_self_eq_false,cond_false,show IntKind.i64.wrap (1+1)=2 from by decide]
   rw [cmp_Or_int_L0]
   simp only [List.length_cons,List.length_nil,show (((0+1+1:Nat):Int))=2 from rfl,show decide ((2:Int) < 2)=false from rfl,cond_false]
   rfl
  ·have:(b != 0)=true:=by simpa using h2
   simp [this,callE_esc']
 ·have:(a != 0)=true:=by simpa using h
  simp [this,callE_esc']
theorem pairs_eq (F:Nat) (p q:S_FontPair) (hF:3≤F):font_pairs F p q=some (cmpP p q):=by
 unfold font_pairs cmpP
 simp only [compare_eq,call_some,or_eq F _ _ hF]
/-- A pair's test. -/
def krnF (n:Int) (l:List S_FontPair) (i:Nat) (x:S_FontPair) (_:Unit):Unit ⊕ Out Unit Int :=
 if ((decide (x.f0 < 0) || decide (x.f0 ≥ n)) || decide (x.f1 < 0)) || decide (x.f1 ≥ n) then .inr (.esc 8)
 else if (x.f2 == 0) || farB x.f2 then .inr (.esc 3)
 else if decide (0 < i) && decide (cmpP (l.getD (i - 1) (S_FontPair.mk 0 0 0)) x ≥ 0) then .inr (.esc 18) else .inl ()
def krnOut (n:Int) (l:List S_FontPair):Out Unit Int:=runT (krnF n l) (fun _=>.go ()) 0 l ()
theorem tables_L3 (F:Nat) (hF:3≤F) (a0:S_Font) (hl:a0.f3.length < F) (hl2:a0.f3.length≤1000):font_tables_L3 F a0 F 0=some (krnOut (a0.f1.length:Int) a0.f3):=by
 refine range_tot a0.f3 (fun n (_:Unit) i=>font_tables_L3 F a0 n i) (krnF (a0.f1.length:Int) a0.f3) (fun _=>.go ()) (fun _ _=>True) (fun n s i x hx _=>?_) (fun n s _=>by simp only [font_tables_L3,dec_end,cond_false]) F hl () trivial
 have hi:=lt_of_get hx
 refine ⟨?_,fun _ _=>trivial⟩
 simp only [font_tables_L3,dec_lt hi,cond_true,chk_in hi,lett_eq,Int.toNat_natCast,getD_of hx,wrap_succ (show i < 9223372036854775807 by omega),or_cond,far_eq,pairs_eq F _ _ hF]
 unfold krnF
 cases h1:((decide (x.f0 < 0) || decide (x.f0 ≥ (a0.f1.length:Int))) || decide (x.f1 < 0)) || decide (x.f1 ≥ (a0.f1.length:Int))
 ·cases h2:x.f2 == 0
  ·cases h3:farB x.f2
   ·by_cases h0:0 < i
    ·have hd:decide ((i:Int) > 0)=true:=by simpa using h0
     rw [wrap_pred h0 (by omega)]
     simp only [hd,cond_true,cond_false,Int.toNat_natCast,Bool.or_false,Bool.and_true,beq_self_eq_true,call_some]
     rw [chk_pos (fun _=>by omega)]
     simp only [h0,decide_true,Bool.true_and]
     cases decide (cmpP (a0.f3.getD (i - 1) (S_FontPair.mk 0 0 0)) x ≥ 0) <;> rfl
    ·have hd:decide ((i:Int) > 0)=false:=by simpa using h0
     simp only [hd,cond_false,cond_true,Bool.or_false,Bool.and_true,beq_self_eq_true,call_some]
     rw [chk_pos (by simp)]
     simp [h0,call_some]
   ·simp [call_some]
  ·simp [call_some]
 ·simp
theorem mapError_L2 (F:Nat) (hF:3≤F) (a0:S_Font) (hn:a0.f1.length≤128) (hl:a0.f3.length < F) (hl2:a0.f3.length≤1000):ref3_mapError_L2 F a0 F 0=some (krnOut (a0.f1.length:Int) a0.f3):=by
 refine range_tot a0.f3 (fun n (_:Unit) i=>ref3_mapError_L2 F a0 n i) (krnF (a0.f1.length:Int) a0.f3) (fun _=>.go ())
  (fun i _=>∀ j p,j < i→a0.f3[j]? = some p→0≤p.f0∧p.f0 < (a0.f1.length:Int)∧0≤p.f1∧p.f1 < (a0.f1.length:Int)) (fun n s i x hx hinv=>?_) (fun n s _=>by simp only [ref3_mapError_L2,dec_end,cond_false]) F hl () (fun j _ h=>by omega)
 have hi:=lt_of_get hx
 refine ⟨?_,fun s' hs' j p hj hp=>?_⟩
 ·simp only [ref3_mapError_L2,dec_lt hi,cond_true,chk_in hi,lett_eq,Int.toNat_natCast,getD_of hx,wrap_succ (show i < 9223372036854775807 by omega),or_cond,beyond_eq F [x.f2] (by simp; omega) (by simp),List.any_cons,List.any_nil,Bool.or_false]
  rw [show (((decide (x.f0 < 0) || decide (x.f1 < 0)) || decide (x.f0 ≥ (a0.f1.length:Int))) || decide (x.f1 ≥ (a0.f1.length:Int)))=(((decide (x.f0 < 0) || decide (x.f0 ≥ (a0.f1.length:Int))) || decide (x.f1 < 0)) || decide (x.f1 ≥ (a0.f1.length:Int))) by
   cases decide (x.f0 < 0) <;> cases decide (x.f1 < 0) <;> cases decide (x.f0 ≥ (a0.f1.length:Int)) <;> rfl]
  unfold krnF
  cases h1:((decide (x.f0 < 0) || decide (x.f0 ≥ (a0.f1.length:Int))) || decide (x.f1 < 0)) || decide (x.f1 ≥ (a0.f1.length:Int))
  ·have b1:0≤x.f0∧x.f0 < (a0.f1.length:Int)∧0≤x.f1∧x.f1 < (a0.f1.length:Int):=by
    simp only [Bool.or_eq_false_iff,decide_eq_false_iff_not] at h1
    omega
   cases h2:x.f2 == 0
   ·cases h3:farB x.f2
    ·by_cases h0:0 < i
     ·have hd:decide ((i:Int) > 0)=true:=by simpa using h0
      rw [wrap_pred h0 (by omega)]
      simp only [hd,cond_true,cond_false,Int.toNat_natCast,Bool.or_false,Bool.and_true,beq_self_eq_true,call_some]
      rw [chk_pos (fun _=>by omega),chk_pos (fun _=>by omega)]
      simp only [h0,decide_true,Bool.true_and]
      obtain ⟨p,hp⟩:∃ p,a0.f3[i - 1]? = some p:=⟨_,List.getElem?_eq_getElem (by omega)⟩
      have b2:=hinv (i - 1) p (by omega) hp
      simp only [getD_of hp,wrap_id (x:=p.f0 * 200) (by omega),wrap_id (x:=p.f0 * 200+p.f1) (by omega),wrap_id (x:=x.f0 * 200) (by omega),wrap_id (x:=x.f0 * 200+x.f1) (by omega)]
      rw [show decide (p.f0 * 200+p.f1 ≥ x.f0 * 200+x.f1)=decide (cmpP p x ≥ 0) from decide_eq_decide.2 (by
       unfold cmpP cmpI
       by_cases e1:p.f0 < x.f0
       ·simp [e1]; omega
       ·by_cases e2:p.f0 > x.f0
        ·simp [e1,e2]; omega
        ·simp only [e1,e2,if_false,bne_self_eq_false]
         by_cases e3:p.f1 < x.f1
         ·simp [e3]; omega
         ·by_cases e4:p.f1 > x.f1
          ·simp [e3,e4]; omega
          ·simp [e3,e4]; omega)]
      cases decide (cmpP p x ≥ 0) <;> rfl
     ·have hd:decide ((i:Int) > 0)=false:=by simpa using h0
      simp only [hd,cond_false,cond_true,Bool.or_false,Bool.and_true,beq_self_eq_true,call_some]
      rw [chk_pos (by simp),chk_pos (by simp)]
      simp [h0]
    ·simp [call_some]
   ·simp [call_some]
  ·simp
 ·by_cases hj2:j=i
  ·subst hj2
   rw [hx] at hp
   cases hp
   unfold krnF at hs'
   split at hs'
   ·cases hs'
   ·rename_i h1
    simp only [Bool.or_eq_true,decide_eq_true_eq] at h1
    omega
  ·exact hinv j p (by omega) hp
/-- The first error of the tables. -/
def tabE (a0:S_Font):Int:=match rngOut (a0.f1.length:Int) a0.f2 with
 | .esc e=>e
 | .go _=>match krnOut (a0.f1.length:Int) a0.f3 with
  | .esc e=>e
  | .go _=>0
theorem tables_eq (F:Nat) (hF:1000≤F) (a0:S_Font) (hn:a0.f1.length≤128) (h2:a0.f2.length≤64) (h3:a0.f3.length≤128):font_tables F a0=some (tabE a0):=by
 unfold font_tables tabE
 rw [tables_L0 F a0 (by omega) (by omega) (by omega),tables_L3 F (by omega) a0 (by omega) (by omega)]
 cases rngOut (a0.f1.length:Int) a0.f2 with
 | esc e=>rfl
 | go _=>cases krnOut (a0.f1.length:Int) a0.f3 <;> rfl
theorem mapError_eq (F:Nat) (hF:1000≤F) (a0:S_Font) (hn:a0.f1.length≤128) (h2:a0.f2.length≤64) (h3:a0.f3.length≤128):ref3_mapError F a0=some (tabE a0):=by
 unfold ref3_mapError tabE
 rw [mapError_L0 F a0 (by omega) (by omega) (by omega),mapError_L2 F (by omega) a0 (by omega) (by omega) (by omega)]
 cases rngOut (a0.f1.length:Int) a0.f2 with
 | esc e=>rfl
 | go _=>cases krnOut (a0.f1.length:Int) a0.f3 <;> rfl
end Go.Vm.SubG
