/-
  para.Check against the reference: the plain law.
-/
import Derived.Test.YtbnneoaaeidenaaDoorParMf
import Derived.Test.YtbnneoaaeidenaaDoorVmD
namespace Go.Vm.ParM
theorem fact (n:Nat):law3_paraFact (n+40)=some true:=by rfl
def badW (x:Int):Bool:=bif decide (x < 0) then true else decide (x > 65535)
def badJ (x:Int):Bool:=bif decide (x < -2047) then true else decide (x > 2047)
theorem nat_toNat (i:Nat):((i:Nat):Int).toNat=i:=rfl
theorem any_drop {α:Type} {l:List α} {i:Nat} {d:α} (h:i < l.length) (p:α→Bool):(l.drop i).any p=(p (l.getD i d) || (l.drop (i+1)).any p):=by
  rw [List.drop_eq_getElem_cons h,List.any_cons,List.getD_eq_getElem?_getD,List.getElem?_eq_getElem h]
  rfl
theorem C2 (F:Nat) (a0:List S_ParaWord) (v1:Int) {l:List Int} (hl:(a0.getD v1.toNat (S_ParaWord.mk [] [])).f0=l) (hb:l.length≤9223372036854775807):∀ (k i n:Nat),i+k=l.length→k < n →
    para_Check_L2 F a0 v1 n (i:Int)=some (bif (l.drop i).any badW then .esc 3 else .go ())
  | k,i,0,_,h=>absurd h (Nat.not_lt_zero _)
  | 0,i,n+1,h,_=>by
    have hi:i=l.length:=by omega
    subst hi
    unfold para_Check_L2
    rw [hl,dec_end,List.drop_length]
    rfl
  | k+1,i,n+1,h,hn=>by
    have hi:i < l.length:=by omega
    unfold para_Check_L2
    rw [hl,dec_lt hi,chk_in hi,lett_eq,nat_toNat,wrap_succ (by omega),any_drop (d:=0) hi,C2 F a0 v1 hl hb k (i+1) n (by omega) (by omega)]
    simp only [cond_true]
    change (bif badW (l.getD i 0) then _ else _)=_
    cases badW (l.getD i 0) <;> rfl
theorem C4 (F:Nat) (a0:List S_ParaWord) (v1:Int) {l:List Int} (hl:(a0.getD v1.toNat (S_ParaWord.mk [] [])).f1=l) (hb:l.length≤9223372036854775807):∀ (k i n:Nat),i+k=l.length→k < n →
    para_Check_L4 F a0 v1 n (i:Int)=some (bif (l.drop i).any badJ then .esc 3 else .go ())
  | k,i,0,_,h=>absurd h (Nat.not_lt_zero _)
  | 0,i,n+1,h,_=>by
    have hi:i=l.length:=by omega
    subst hi
    unfold para_Check_L4
    rw [hl,dec_end,List.drop_length]
    rfl
  | k+1,i,n+1,h,hn=>by
    have hi:i < l.length:=by omega
    unfold para_Check_L4
    rw [hl,dec_lt hi,chk_in hi,lett_eq,nat_toNat,wrap_succ (by omega),any_drop (d:=0) hi,C4 F a0 v1 hl hb k (i+1) n (by omega) (by omega)]
    simp only [cond_true]
    change (bif badJ (l.getD i 0) then _ else _)=_
    cases badJ (l.getD i 0) <;> rfl
theorem R2 (F:Nat) (a0:List S_ParaWord) (v1:Int):∀ (n:Nat) (v2:Int),ref3_ParaError_L2 F a0 v1 n v2=para_Check_L2 F a0 v1 n v2
  | 0,_=>rfl
  | n+1,v2=>by
    unfold ref3_ParaError_L2 para_Check_L2
    rw [R2 F a0 v1 n]
theorem R4 (F:Nat) (l:List Int) (hb:l.length≤9223372036854775807):∀ (k i n:Nat),i+k=l.length→k < n →
    ref3_beyond_L0 F 2047 l n (i:Int)=some (bif (l.drop i).any badJ then .esc true else .go ())
  | k,i,0,_,h=>absurd h (Nat.not_lt_zero _)
  | 0,i,n+1,h,_=>by
    have hi:i=l.length:=by omega
    subst hi
    unfold ref3_beyond_L0
    rw [dec_end,List.drop_length]
    rfl
  | k+1,i,n+1,h,hn=>by
    have hi:i < l.length:=by omega
    unfold ref3_beyond_L0
    rw [dec_lt hi,chk_in hi,lett_eq,nat_toNat,wrap_succ (by omega),any_drop (d:=0) hi,R4 F l hb k (i+1) n (by omega) (by omega)]
    simp only [cond_true]
    have e:(bif decide (l.getD i 0 > 2047) then true else decide (l.getD i 0 < IntKind.i64.wrap (0 - 2047)))=badJ (l.getD i 0):=by
      unfold badJ
      rw [show IntKind.i64.wrap (0 - 2047)=(-2047:Int) from rfl]
      cases decide (l.getD i 0 > 2047) <;> cases decide (l.getD i 0 < -2047) <;> rfl
    rw [e]
    cases badJ (l.getD i 0) <;> rfl
theorem beyond_eq (F:Nat) (l:List Int) (hb:l.length≤9223372036854775807) (hF:l.length < F):ref3_beyond F 2047 l=some (l.any badJ):=by
  unfold ref3_beyond
  have:=R4 F l hb l.length 0 F (by omega) hF
  rw [show (0:Int)=((0:Nat):Int) from rfl,this,List.drop_zero]
  cases l.any badJ <;> rfl
/-- The first error of words,of which some parts are counted. -/
def scanW:List S_ParaWord→Int→Option Int
  | [],_=>none
  | w :: r,m=>if w.f0.length=0∨w.f1.length+1≠w.f0.length then some 4 else if IntKind.i64.wrap (m+(w.f0.length:Int)) > 256 then some 2 else if w.f0.any badW=true then some 3 else if w.f1.any badJ=true then some 3 else scanW r (IntKind.i64.wrap (m+(w.f0.length:Int)))
def outW:Option Int→Out Unit Int
  | none=>.go ()
  | some e=>.esc e
def Small (w:S_ParaWord):Prop:=w.f0.length≤9223372036854775807∧w.f1.length≤9223372036854775807
theorem form_c {w:S_ParaWord} (h:Small w):(bif (((w.f0.length:Int)) == 0) then true else ((w.f1.length:Int) != IntKind.i64.wrap ((w.f0.length:Int) - 1)))=decide (w.f0.length=0∨w.f1.length+1≠w.f0.length):=by
  obtain ⟨h1,h2⟩:=h
  by_cases h0:w.f0.length=0
  · simp [h0]
  · have e:((w.f0.length:Int) == 0)=false:=by simp; intro h; exact h0 (by rw [h]; rfl)
    rw [e,cond_false,wrap_id (by omega)]
    by_cases h3:w.f1.length+1=w.f0.length
    · have:((w.f1.length:Int) != (w.f0.length:Int) - 1)=false:=by simp; omega
      rw [this]
      symm
      simp [h0,h3]
    · have:((w.f1.length:Int) != (w.f0.length:Int) - 1)=true:=by simp; omega
      rw [this]
      symm
      simp [h3]
theorem form_r {w:S_ParaWord} (h:Small w):(bif (((w.f0.length:Int)) == 0) then true else (IntKind.i64.wrap ((w.f1.length:Int)+1) != (w.f0.length:Int)))=decide (w.f0.length=0∨w.f1.length+1≠w.f0.length):=by
  obtain ⟨h1,h2⟩:=h
  by_cases h0:w.f0.length=0
  · simp [h0]
  · have e:((w.f0.length:Int) == 0)=false:=by simp; intro h; exact h0 (by rw [h]; rfl)
    rw [e,cond_false]
    by_cases hx:w.f1.length=9223372036854775807
    · rw [hx,show IntKind.i64.wrap (((9223372036854775807:Nat):Int)+1) = -9223372036854775808 from rfl]
      have:((-9223372036854775808:Int) != (w.f0.length:Int))=true:=by first | (simp; done) | (simp; omega)
      rw [this]
      symm
      simp
      omega
    · rw [wrap_id (by omega)]
      by_cases h3:w.f1.length+1=w.f0.length
      · have:((w.f1.length:Int)+1 != (w.f0.length:Int))=false:=by simp; omega
        rw [this]
        symm
        simp [h0,h3]
      · have:((w.f1.length:Int)+1 != (w.f0.length:Int))=true:=by simp; omega
        rw [this]
        symm
        simp [h3]
theorem C0 (F:Nat) (a0:List S_ParaWord) (hs:∀ w∈a0,Small w∧w.f0.length < F∧w.f1.length < F) (ha:a0.length≤128):∀ (k i n:Nat) (m:Int),i+k=a0.length→k < n→para_Check_L0 F a0 n m (i:Int)=some (outW (scanW (a0.drop i) m))∧ref3_ParaError_L0 F a0 n m (i:Int)=some (outW (scanW (a0.drop i) m))
  | k,i,0,m,_,h=>absurd h (Nat.not_lt_zero _)
  | 0,i,n+1,m,h,_=>by
    have hi:i=a0.length:=by omega
    subst hi
    unfold para_Check_L0 ref3_ParaError_L0
    rw [dec_end,List.drop_length]
    exact ⟨rfl,rfl⟩
  | k+1,i,n+1,m,h,hn=>by
    have hi:i < a0.length:=by omega
    obtain ⟨w,hw⟩:∃ w,a0[i]=w:=⟨_,rfl⟩
    have hg:a0.getD i (S_ParaWord.mk [] [])=w:=by rw [List.getD_eq_getElem?_getD,List.getElem?_eq_getElem hi,hw]; rfl
    obtain ⟨hsw,hf0,hf1⟩:=hs w (by rw [← hw]; exact List.getElem_mem hi)
    unfold para_Check_L0 ref3_ParaError_L0
    rw [List.drop_eq_getElem_cons hi,hw]
    simp only [scanW,dec_lt hi,cond_true,chk_in hi,lett_eq,nat_toNat,hg,form_c hsw,form_r hsw]
    by_cases h1:w.f0.length=0∨w.f1.length+1≠w.f0.length
    · rw [if_pos h1,decide_eq_true h1]
      exact ⟨rfl,rfl⟩
    · rw [if_neg h1,decide_eq_false h1]
      simp only [cond_false]
      by_cases h2:IntKind.i64.wrap (m+(w.f0.length:Int)) > 256
      · rw [if_pos h2,decide_eq_true h2]
        exact ⟨rfl,rfl⟩
      · rw [if_neg h2,decide_eq_false h2]
        simp only [cond_false]
        have e2:=C2 F a0 (i:Int) (l:=w.f0) (by rw [nat_toNat,hg]) hsw.1 w.f0.length 0 F (by omega) hf0
        have e4:=C4 F a0 (i:Int) (l:=w.f1) (by rw [nat_toNat,hg]) hsw.2 w.f1.length 0 F (by omega) hf1
        have e5:=beyond_eq F w.f1 hsw.2 hf1
        rw [List.drop_zero] at e2 e4
        rw [show ((0:Nat):Int)=0 from rfl] at e2 e4
        rw [R2,e2,e4,e5]
        have ih:=C0 F a0 hs ha k (i+1) n (IntKind.i64.wrap (m+(w.f0.length:Int))) (by omega) (by omega)
        rw [wrap_succ (i:=i) (by omega)]
        cases hw1:w.f0.any badW with
        | true=>exact ⟨rfl,rfl⟩
        | false =>
          simp only [cond_false,callE_go,Bool.false_eq_true,if_false,call_some]
          cases hw2:w.f1.any badJ with
          | true=>exact ⟨rfl,rfl⟩
          | false =>
            simp only [cond_false,callE_go,Bool.false_eq_true,if_false]
            exact ih
/-- What the shape's check comes to. -/
def z6 (s:S_ParaShape):Bool:=bif (bif (decide (s.f0 < 1)) then true else (decide (s.f0 > 65535))) then true else (decide (s.f2 < 0))
def z7 (s:S_ParaShape):Bool:=bif (bif z6 s then true else (decide (s.f3 > 65535))) then true else (decide (s.f4 < 0))
def z8 (s:S_ParaShape):Bool:=bif (bif z7 s then true else (decide (s.f4 > 65535))) then true else (decide (s.f5 < 0))
def shapeErr (s:S_ParaShape):Int :=
  bif (bif z8 s then true else (decide (s.f5 > 1048576))) then 3
  else bif (bif (decide (s.f1 < s.f2)) then true else (decide (s.f3 < s.f1))) then 18 else 0
def errW (a0:List S_ParaWord) (s:S_ParaShape):Int:=bif decide ((a0.length:Int) > 128) then 2 else (scanW a0 0).getD (shapeErr s)
theorem shape_ok (s:S_ParaShape):(lett ((bif (bif (decide (s.f0 < (1:Int))) then true else (decide (s.f0 > (65535:Int)))) then true else (decide (s.f2 < (0:Int))))) fun z6 =>
    lett ((bif (bif z6 then true else (decide (s.f3 > (65535:Int)))) then true else (decide (s.f4 < (0:Int))))) fun z7 =>
    lett ((bif (bif z7 then true else (decide (s.f4 > (65535:Int)))) then true else (decide (s.f5 < (0:Int))))) fun z8 =>
    bif (bif z8 then true else (decide (s.f5 > (1048576:Int)))) then
      some (3:Int)
    else
      bif (bif (decide (s.f1 < s.f2)) then true else (decide (s.f3 < s.f1))) then
        some (18:Int)
      else
        some (0:Int))=some (shapeErr s):=by
  show (bif (bif z8 s then true else (decide (s.f5 > 1048576))) then some 3 else bif (bif (decide (s.f1 < s.f2)) then true else (decide (s.f3 < s.f1))) then some 18 else some 0)=some (shapeErr s)
  unfold shapeErr
  generalize (bif z8 s then true else decide (s.f5 > 1048576))=p
  generalize (bif (decide (s.f1 < s.f2)) then true else decide (s.f3 < s.f1))=q
  cases p <;> cases q <;> rfl
def fuelW (a0:List S_ParaWord):Nat:=400+(a0.map fun w=>w.f0.length+w.f1.length+1).sum
theorem sum_mem {l:List Nat}:∀ {x:Nat},x∈l→x≤l.sum:=by
  induction l with
  | nil=>intro x h; cases h
  | cons y l ih =>
    intro x h
    rw [List.sum_cons]
    rcases List.mem_cons.1 h with rfl | h
    · omega
    · have:=ih h
      omega
theorem fuel_mem {a0:List S_ParaWord}:∀ w∈a0,w.f0.length < fuelW a0∧w.f1.length < fuelW a0:=by
  intro w hw
  have:w.f0.length+w.f1.length+1≤(a0.map fun w=>w.f0.length+w.f1.length+1).sum:=sum_mem (List.mem_map.2 ⟨w,hw,rfl⟩)
  unfold fuelW
  omega
theorem check_both (F:Nat) (a0:List S_ParaWord) (s:S_ParaShape) (hs:∀ w∈a0,Small w) (hF:fuelW a0≤F):para_Check F a0 s=some (errW a0 s)∧ref3_ParaError F a0 s=some (errW a0 s):=by
  unfold para_Check ref3_ParaError errW
  by_cases h:(a0.length:Int) > 128
  · rw [decide_eq_true h]
    exact ⟨rfl,rfl⟩
  · rw [decide_eq_false h]
    simp only [cond_false]
    have hF4:400≤F:=by unfold fuelW at hF; omega
    obtain ⟨h1,h2⟩:=C0 F a0 (fun w hw=>⟨hs w hw,Nat.lt_of_lt_of_le (fuel_mem w hw).1 hF,Nat.lt_of_lt_of_le (fuel_mem w hw).2 hF⟩) (by omega) a0.length 0 F 0 (by omega) (by omega)
    rw [List.drop_zero] at h1 h2
    rw [show ((0:Nat):Int)=0 from rfl] at h1 h2
    rw [h1,h2]
    cases scanW a0 0 with
    | some e=>exact ⟨rfl,rfl⟩
    | none=>exact ⟨shape_ok s,shape_ok s⟩
end Go.Vm.ParM
