/-
  FONT,PLAIN,part 1: glyphs: the first error is the reference's.
-/
import Derived.Test.YtkoocklcgndanaaDoorSubF
import Derived.Test.YtkoocklcgndanaaDoorVmC
namespace Go.Vm.SubG
def farB (x:Int):Bool:=decide (x < -2047) || decide (x > 2047)
theorem wrap_m:IntKind.i64.wrap (0 - 2047) = -2047:=by decide
theorem far_eq (F:Nat) (x:Int):font_far F x 2047=some (farB x):=by
 simp only [font_far,wrap_m,or_cond,farB]
theorem farB_comm (z:Int):((decide (z > (2047:Int))) || (decide (z < (-2047:Int))))=farB z:=by rw [Bool.or_comm]; rfl
theorem beyond_eq (F:Nat) (l:List Int) (hl:l.length < F) (hl2:l.length≤1000):ref3_beyond F 2047 l=some (l.any farB):=by
 have h:=range_tot l (fun n (_:Unit) i=>ref3_beyond_L0 F 2047 l n i) (fun _ x _=>if farB x then .inr (.esc true) else .inl ()) (fun _=>.go ()) (fun _ _=>True)
  (fun n s i x hx _=>by
   have hi:=lt_of_get hx
   refine ⟨?_,fun _ _=>trivial⟩
   simp only [ref3_beyond_L0,dec_lt hi,cond_true,chk_in hi,lett_eq,Int.toNat_natCast,getD_of hx,or_cond,wrap_m,farB_comm,wrap_succ (show i < 9223372036854775807 by omega)]
   cases farB x <;> rfl)
  (fun n s _=>by simp only [ref3_beyond_L0,dec_end,cond_false]) F hl () trivial
 have hr:∀ (l:List Int) (i:Nat),runT (fun _ x _=>if farB x then Sum.inr (Out.esc true) else Sum.inl ()) (fun _=>(Out.go ():Out Unit Bool)) i l ()=if l.any farB then .esc true else .go ():=by
  intro l
  induction l with
  | nil=>intro i; rfl
  | cons x l ih =>
   intro i
   rw [runT,List.any_cons]
   cases farB x
   ·simpa using ih (i+1)
   ·rfl
 unfold ref3_beyond
 rw [h,hr]
 cases l.any farB <;> rfl
theorem far2k {ρ:Type} (F:Nat) (x y:Int) (k:Bool→Option ρ):(call (font_far F x 2047) fun y1=>call ((bif ((y1 == false) && true) then font_far F y 2047 else some false)) fun y2=>k (bif y1 then true else y2))=k (farB x || farB y):=by
 rw [far_eq,far_eq,call_some]
 cases farB x <;> rfl
/-- A point's test. -/
def ptF (l:List S_FontPoint) (i:Nat) (x:S_FontPoint) (_:Unit):Unit ⊕ Out Unit Int :=
 if farB x.f0 || farB x.f1 then .inr (.esc 3) else if decide (0 < i) && !x.f2 && !(l.getD (i - 1) (S_FontPoint.mk 0 0 false)).f2 then .inr (.esc 4) else .inl ()
def ptsOut (l:List S_FontPoint):Out Unit Int:=runT (ptF l) (fun _=>.go ()) 0 l ()
theorem contour_L0 (F:Nat) (l:List S_FontPoint) (hl:l.length < F) (hl2:l.length≤1000):font_contour_L0 F l F 0=some (ptsOut l):=by
 refine range_tot l (fun n (_:Unit) i=>font_contour_L0 F l n i) (ptF l) (fun _=>.go ()) (fun _ _=>True) (fun n s i x hx _=>?_) (fun n s _=>by simp only [font_contour_L0,dec_end,cond_false]) F hl () trivial
 have hi:=lt_of_get hx
 refine ⟨?_,fun _ _=>trivial⟩
 simp only [font_contour_L0,dec_lt hi,cond_true,chk_in hi,lett_eq,Int.toNat_natCast,getD_of hx,wrap_succ (show i < 9223372036854775807 by omega)]
 rw [far2k F _ _ (fun b=>bif b then some (Out.esc (3:Int)) else _)]
 unfold ptF
 cases farB x.f0 || farB x.f1
 ·by_cases h0:0 < i
  ·have hd:decide ((i:Int) > 0)=true:=by simpa using h0
   rw [wrap_pred h0 (by omega)]
   simp only [hd,cond_true,cond_false,Int.toNat_natCast]
   rw [chk_pos (fun _=>by omega)]
   simp only [h0,decide_true,Bool.true_and]
   cases x.f2 <;> cases (l.getD (i - 1) (S_FontPoint.mk 0 0 false)).f2 <;> rfl
  ·have hd:decide ((i:Int) > 0)=false:=by simpa using h0
   simp only [hd,cond_false]
   rw [chk_pos (by simp)]
   simp [h0]
 ·rfl
theorem glyphError_L2 (F:Nat) (g:S_FontGlyph) (v1:Nat) (l:List S_FontPoint) (hg:g.f1.getD v1 []=l) (hl:l.length < F) (hl2:l.length≤1000) (hF:3≤F):ref3_glyphError_L2 F g v1 F 0=some (ptsOut l):=by
 refine range_tot l (fun n (_:Unit) i=>ref3_glyphError_L2 F g v1 n i) (ptF l) (fun _=>.go ()) (fun _ _=>True) (fun n s i x hx _=>?_) (fun n s _=>by simp only [ref3_glyphError_L2,Int.toNat_natCast,hg,dec_end,cond_false]) F hl () trivial
 have hi:=lt_of_get hx
 refine ⟨?_,fun _ _=>trivial⟩
 simp only [ref3_glyphError_L2,Int.toNat_natCast,hg,dec_lt hi,cond_true,chk_in hi,lett_eq,getD_of hx,wrap_succ (show i < 9223372036854775807 by omega)]
 rw [beyond_eq F _ (by simp; omega) (by simp),call_some]
 unfold ptF
 simp only [List.any_cons,List.any_nil,Bool.or_false]
 cases farB x.f0 || farB x.f1
 ·by_cases h0:0 < i
  ·have hd:decide ((i:Int) > 0)=true:=by simpa using h0
   rw [wrap_pred h0 (by omega)]
   simp only [hd,cond_true,cond_false,Int.toNat_natCast]
   rw [chk_pos (fun _=>by omega)]
   simp only [h0,decide_true,Bool.true_and]
   cases x.f2 <;> cases (l.getD (i - 1) (S_FontPoint.mk 0 0 false)).f2 <;> rfl
  ·have hd:decide ((i:Int) > 0)=false:=by simpa using h0
   simp only [hd,cond_false]
   rw [chk_pos (by simp)]
   simp [h0]
 ·rfl
theorem ptsOut_code (l:List S_FontPoint):ptsOut l=.go ()∨ptsOut l=.esc 3∨ptsOut l=.esc 4:=by
 have:∀ (m:List S_FontPoint) (i:Nat),runT (ptF l) (fun _=>.go ()) i m ()=.go ()∨runT (ptF l) (fun _=>.go ()) i m ()=.esc 3∨runT (ptF l) (fun _=>.go ()) i m ()=.esc 4:=by
  intro m
  induction m with
  | nil=>intro i; exact .inl rfl
  | cons x m ih =>
   intro i
   rw [runT]
   unfold ptF
   split
   ·exact ih _
   ·rename_i r h
    split at h
    ·cases h; exact .inr (.inl rfl)
    ·split at h
     ·cases h; exact .inr (.inr rfl)
     ·cases h
 exact this l 0
/-- The error of a contour. -/
def conE (l:List S_FontPoint):Int :=
 if l.length < 3 || !(l.getD 0 (S_FontPoint.mk 0 0 false)).f2 then 4 else if l.length > 32 then 2 else match ptsOut l with
  | .go _=>0
  | .esc e=>e
theorem contour_eq (F:Nat) (hF:40≤F) (l:List S_FontPoint):font_contour F l=some (conE l):=by
 unfold font_contour conE
 have hd:decide ((l.length:Int) < 3)=decide (l.length < 3):=by
  by_cases h:l.length < 3
  ·simp [h]; omega
  ·simp [h]; omega
 have hd2:decide ((l.length:Int) > 32)=decide (l.length > 32):=by
  by_cases h:l.length > 32
  ·simp [h]; omega
  ·simp [h]; omega
 rw [hd,hd2,chk_pos (by
  intro h
  have:¬ l.length < 3:=by simpa using h
  omega)]
 simp only [lett_eq,or_cond]
 rw [show (0:Int).toNat=0 from rfl]
 cases hb:decide (l.length < 3) || !(l.getD 0 (S_FontPoint.mk 0 0 false)).f2
 ·by_cases h:l.length > 32
  ·simp [h]
  ·rw [contour_L0 F l (by omega) (by omega)]
   simp only [h,decide_false,cond_false,if_false]
   rcases ptsOut_code l with h | h | h <;> rw [h] <;> rfl
 ·simp
/-- A glyph's contours: the first error. -/
def consOut (ls:List (List S_FontPoint)):Out Unit Int:=runT (fun _ l _=>if conE l=0 then .inl () else .inr (.esc (conE l))) (fun _=>.go ()) 0 ls ()
theorem glyph_L1 (F:Nat) (hF:40≤F) (g:S_FontGlyph) (hl:g.f1.length < F) (hl2:g.f1.length≤1000):font_glyph_L1 F g F 0=some (consOut g.f1):=by
 refine range_tot g.f1 (fun n (_:Unit) i=>font_glyph_L1 F g n i) _ (fun _=>.go ()) (fun _ _=>True) (fun n s i x hx _=>?_) (fun n s _=>by simp only [font_glyph_L1,dec_end,cond_false]) F hl () trivial
 have hi:=lt_of_get hx
 refine ⟨?_,fun _ _=>trivial⟩
 simp only [font_glyph_L1,dec_lt hi,cond_true,chk_in hi,Int.toNat_natCast,getD_of hx,wrap_succ (show i < 9223372036854775807 by omega)]
 rw [contour_eq F hF,call_some]
 by_cases h:conE x=0
 ·simp [h]
 ·have h2:(conE x != 0)=true:=by simpa using h
  simp [h,h2]
theorem glyphError_L0 (F:Nat) (hF:40≤F) (g:S_FontGlyph) (hl:g.f1.length < F) (hl2:g.f1.length≤1000):ref3_glyphError_L0 F g F 0=some (consOut g.f1):=by
 refine range_tot g.f1 (fun n (_:Unit) i=>ref3_glyphError_L0 F g n i) _ (fun _=>.go ()) (fun _ _=>True) (fun n s i x hx _=>?_) (fun n s _=>by simp only [ref3_glyphError_L0,dec_end,cond_false]) F hl () trivial
 have hi:=lt_of_get hx
 refine ⟨?_,fun _ _=>trivial⟩
 simp only [ref3_glyphError_L0,dec_lt hi,cond_true,chk_in hi,Int.toNat_natCast,getD_of hx,wrap_succ (show i < 9223372036854775807 by omega),lett_eq,or_cond]
 have hd:decide ((x.length:Int) < 3)=decide (x.length < 3):=by
  by_cases h:x.length < 3
  ·simp [h]; omega
  ·simp [h]; omega
 have hd2:decide ((x.length:Int) > 32)=decide (x.length > 32):=by
  by_cases h:x.length > 32
  ·simp [h]; omega
  ·simp [h]; omega
 rw [hd,hd2,chk_pos (by
  intro h
  have:¬ x.length < 3:=by simpa using h
  omega),show (0:Int).toNat=0 from rfl]
 unfold conE
 cases hb:decide (x.length < 3) || !(x.getD 0 (S_FontPoint.mk 0 0 false)).f2
 ·by_cases h:x.length > 32
  ·simp [h]
  ·rw [glyphError_L2 F g i x (getD_of hx) (by omega) (by omega) (by omega)]
   simp only [h,decide_false,cond_false,if_false]
   rcases ptsOut_code x with h | h | h <;> rw [h] <;> rfl
 ·simp
/-- A glyph's parts: the first error. -/
def partF (many:Int) (_:Nat) (x:S_FontPart) (_:Unit):Unit ⊕ Out Unit Int :=
 if decide (x.f0 < 0) || decide (x.f0 ≥ many) then .inr (.esc 8) else if farB x.f1 || farB x.f2 then .inr (.esc 3) else .inl ()
def partsOut (many:Int) (l:List S_FontPart):Out Unit Int:=runT (partF many) (fun _=>.go ()) 0 l ()
theorem glyph_L3 (F:Nat) (g:S_FontGlyph) (many:Int) (hl:g.f2.length < F) (hl2:g.f2.length≤1000):font_glyph_L3 F g many F 0=some (partsOut many g.f2):=by
 refine range_tot g.f2 (fun n (_:Unit) i=>font_glyph_L3 F g many n i) _ (fun _=>.go ()) (fun _ _=>True) (fun n s i x hx _=>?_) (fun n s _=>by simp only [font_glyph_L3,dec_end,cond_false]) F hl () trivial
 have hi:=lt_of_get hx
 refine ⟨?_,fun _ _=>trivial⟩
 simp only [font_glyph_L3,dec_lt hi,cond_true,chk_in hi,lett_eq,Int.toNat_natCast,getD_of hx,wrap_succ (show i < 9223372036854775807 by omega)]
 rw [far2k F _ _ (fun b=>bif b then some (Out.esc (3:Int)) else _),or_cond]
 unfold partF
 cases decide (x.f0 < 0) || decide (x.f0 ≥ many) <;> cases farB x.f1 || farB x.f2 <;> rfl
theorem glyphError_L4 (F:Nat) (hF:3≤F) (g:S_FontGlyph) (many:Int) (hl:g.f2.length < F) (hl2:g.f2.length≤1000):ref3_glyphError_L4 F g many F 0=some (partsOut many g.f2):=by
 refine range_tot g.f2 (fun n (_:Unit) i=>ref3_glyphError_L4 F g many n i) _ (fun _=>.go ()) (fun _ _=>True) (fun n s i x hx _=>?_) (fun n s _=>by simp only [ref3_glyphError_L4,dec_end,cond_false]) F hl () trivial
 have hi:=lt_of_get hx
 refine ⟨?_,fun _ _=>trivial⟩
 simp only [ref3_glyphError_L4,dec_lt hi,cond_true,chk_in hi,lett_eq,Int.toNat_natCast,getD_of hx,wrap_succ (show i < 9223372036854775807 by omega),or_cond]
 rw [beyond_eq F _ (by simp; omega) (by simp),call_some]
 unfold partF
 simp only [List.any_cons,List.any_nil,Bool.or_false]
 cases decide (x.f0 < 0) || decide (x.f0 ≥ many) <;> cases farB x.f1 || farB x.f2 <;> rfl
/-- The error of a glyph. -/
def glyE (many:Int) (g:S_FontGlyph):Int :=
 if decide (g.f0 < 0) || decide (g.f0 > 2047) then 3 else if decide (g.f1.length > 0) && decide (g.f2.length > 0) then 4 else if decide (g.f1.length > 8) || decide (g.f2.length > 4) then 2 else match consOut g.f1 with
  | .esc e=>e
  | .go _=>match partsOut many g.f2 with
   | .esc e=>e
   | .go _=>0
theorem dec_gt (n m:Nat):decide ((n:Int) > (m:Int))=decide (n > m):=by
 by_cases h:n > m
 ·simp [h]
 ·simp [h]
theorem glyph_eq (F:Nat) (hF:40≤F) (g:S_FontGlyph) (many:Int):font_glyph F g many=some (glyE many g):=by
 unfold font_glyph glyE
 simp only [lett_eq,or_cond,and_cond]
 rw [show (0:Int)=((0:Nat):Int) from rfl,show (8:Int)=((8:Nat):Int) from rfl,show (4:Int)=((4:Nat):Int) from rfl,dec_gt,dec_gt,dec_gt,dec_gt]
 cases decide (g.f0 < ((0:Nat):Int)) || decide (g.f0 > 2047)
 ·cases decide (g.f1.length > 0) && decide (g.f2.length > 0)
  ·cases hc:decide (g.f1.length > 8) || decide (g.f2.length > 4)
   ·have h1:g.f1.length≤8∧g.f2.length≤4:=by
     simp only [Bool.or_eq_false_iff,decide_eq_false_iff_not] at hc
     omega
    rw [Int.natCast_zero,glyph_L1 F hF g (by omega) (by omega),glyph_L3 F g many (by omega) (by omega)]
    simp only [cond_false]
    cases consOut g.f1 with
    | esc e=>rfl
    | go _=>cases partsOut many g.f2 <;> rfl
   ·rfl
  ·rfl
 ·rfl
theorem glyphError_eq (F:Nat) (hF:40≤F) (g:S_FontGlyph) (many:Int):ref3_glyphError F g many=some (glyE many g):=by
 unfold ref3_glyphError glyE
 simp only [lett_eq,or_cond,and_cond]
 rw [show (0:Int)=((0:Nat):Int) from rfl,show (8:Int)=((8:Nat):Int) from rfl,show (4:Int)=((4:Nat):Int) from rfl,dec_gt,dec_gt,dec_gt,dec_gt]
 cases decide (g.f0 < ((0:Nat):Int)) || decide (g.f0 > 2047)
 ·cases decide (g.f1.length > 0) && decide (g.f2.length > 0)
  ·cases hc:decide (g.f1.length > 8) || decide (g.f2.length > 4)
   ·have h1:g.f1.length≤8∧g.f2.length≤4:=by
     simp only [Bool.or_eq_false_iff,decide_eq_false_iff_not] at hc
     omega
    rw [Int.natCast_zero,glyphError_L0 F hF g (by omega) (by omega),glyphError_L4 F (by omega) g many (by omega) (by omega)]
    simp only [cond_false]
    cases consOut g.f1 with
    | esc e=>rfl
    | go _=>cases partsOut many g.f2 <;> rfl
   ·rfl
  ·rfl
 ·rfl
/-- What a glyph without error is like. -/
structure GlyOk (many:Nat) (g:S_FontGlyph):Prop where
 adv:0≤g.f0∧g.f0≤2047
 cons:g.f1.length≤8
 parts:g.f2.length≤4
 one:g.f1=[]∨g.f2=[]
 con:∀ l∈g.f1,l.length≤32
 pt:∀ p∈g.f2,0≤p.f0∧p.f0 < many
theorem glyOk (many:Nat) (g:S_FontGlyph) (h:glyE many g=0):GlyOk many g:=by
 unfold glyE at h
 split at h
 ·cases h
 rename_i h1
 split at h
 ·cases h
 rename_i h2
 split at h
 ·cases h
 rename_i h3
 simp only [Bool.or_eq_true,Bool.and_eq_true,decide_eq_true_eq] at h1 h2 h3
 have hcon:∀ (ls:List (List S_FontPoint)) (i:Nat),runT (fun _ l _=>if conE l=0 then Sum.inl () else Sum.inr (Out.esc (conE l))) (fun _=>(Out.go ():Out Unit Int)) i ls ()=.go ()→∀ l∈ls,conE l=0:=by
  intro ls
  induction ls with
  | nil=>intro i _ l hl; cases hl
  | cons x ls ih =>
   intro i hr l hl
   rw [runT] at hr
   by_cases hx:conE x=0
   ·simp only [hx,if_true] at hr
    rcases List.mem_cons.1 hl with rfl | hl
    ·exact hx
    ·exact ih _ hr l hl
   ·simp only [hx,if_false] at hr
    cases hr
 have hpar:∀ (ls:List S_FontPart) (i:Nat),runT (partF many) (fun _=>(Out.go ():Out Unit Int)) i ls ()=.go ()→∀ p∈ls,0≤p.f0∧p.f0 < many:=by
  intro ls
  induction ls with
  | nil=>intro i _ l hl; cases hl
  | cons x ls ih =>
   intro i hr l hl
   rw [runT] at hr
   unfold partF at hr
   split at hr
   ·rename_i s' hs
    split at hs
    ·cases hs
    ·rename_i hx
     simp only [Bool.or_eq_true,decide_eq_true_eq] at hx
     rcases List.mem_cons.1 hl with rfl | hl
     ·omega
     ·exact ih _ hr l hl
   ·rename_i r hs
    split at hs
    ·cases hs; cases hr
    ·split at hs
     ·cases hs; cases hr
     ·cases hs
 cases hc:consOut g.f1 with
 | esc e =>
  rw [hc] at h
  -- a contour's error is not 0
  exfalso
  have key:∀ (ls:List (List S_FontPoint)) (i:Nat),runT (fun _ l _=>if conE l=0 then Sum.inl () else Sum.inr (Out.esc (conE l))) (fun _=>(Out.go ():Out Unit Int)) i ls ()=.esc e→e≠0:=by
   intro ls
   induction ls with
   | nil=>intro i hr; cases hr
   | cons x ls ih =>
    intro i hr
    rw [runT] at hr
    by_cases hx:conE x=0
    ·simp only [hx,if_true] at hr
     exact ih _ hr
    ·simp only [hx,if_false] at hr
     cases hr
     exact hx
  exact key _ 0 hc h
 | go _ =>
  rw [hc] at h
  cases hp:partsOut many g.f2 with
  | esc e =>
   rw [hp] at h
   exfalso
   have key:∀ (ls:List S_FontPart) (i:Nat),runT (partF many) (fun _=>(Out.go ():Out Unit Int)) i ls ()=.esc e→e≠0:=by
    intro ls
    induction ls with
    | nil=>intro i hr; cases hr
    | cons x ls ih =>
     intro i hr
     rw [runT] at hr
     unfold partF at hr
     split at hr
     ·exact ih _ hr
     ·rename_i r hs
      split at hs
      ·cases hs; cases hr; decide
      ·split at hs
       ·cases hs; cases hr; decide
       ·cases hs
   exact key _ 0 hp h
  | go _ =>
   refine ⟨by omega,by omega,by omega,?_,fun l hl=>?_,hpar _ 0 hp⟩
   ·rcases Nat.eq_zero_or_pos g.f1.length with h0 | h0
    ·exact .inl (List.eq_nil_of_length_eq_zero h0)
    ·exact .inr (List.eq_nil_of_length_eq_zero (by omega))
   ·have:=hcon _ 0 hc l hl
    unfold conE at this
    split at this
    ·cases this
    ·split at this
     ·cases this
     ·omega
end Go.Vm.SubG
