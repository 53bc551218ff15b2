/-
  FONT,PLAIN,part 6: Check returns the reference's error.
-/
import Derived.Test.YtkoocklcgndanaaDoorSubLf
namespace Go.Vm.SubG
/-! ### The glyphs -/
def ckF (n:Int) (_:Nat) (x:S_FontGlyph) (_:Unit):Unit ⊕ Out Unit Int:=if glyE n x=0 then .inl () else .inr (.esc (glyE n x))
def ceF (n:Int) (_:Nat) (x:S_FontGlyph) (s:Int):Int ⊕ Out Int Int:=if glyE n x=0 then .inl (s+(gsz x:Nat)) else .inr (.esc (glyE n x))
theorem check_L1 (F:Nat) (hF:1000≤F) (a0:S_Font) (hl:a0.f1.length≤128):font_Check_L1 F a0 F 0=some (runT (ckF (a0.f1.length:Int)) (fun _=>.go ()) 0 a0.f1 ()):=by
 refine range_tot a0.f1 (fun n (_:Unit) i=>font_Check_L1 F a0 n i) (ckF (a0.f1.length:Int)) (fun _=>.go ()) (fun _ _=>True) (fun n s i x hx _=>?_) (fun n s _=>by simp only [font_Check_L1,dec_end,cond_false]) F (by omega) () trivial
 have hi:=lt_of_get hx
 refine ⟨?_,fun _ _=>trivial⟩
 simp only [font_Check_L1,dec_lt hi,cond_true,chk_in hi,Int.toNat_natCast,getD_of hx,glyph_eq F (show 40≤F by omega),call_some,wrap_succ (show i < 9223372036854775807 by omega),ckF]
 by_cases h:glyE (a0.f1.length:Int) x=0
 ·simp [h]
 ·have h2:(glyE (a0.f1.length:Int) x != 0)=true:=by simpa using h
  simp [h,h2]
theorem csum_fold:∀ (l:List (List S_FontPoint)) (s:Int),0≤s→(∀ x∈l,x.length≤32)→s+161 * l.length≤100000000→l.foldl (fun s x=>IntKind.i64.wrap (s+IntKind.i64.wrap (1+IntKind.i64.wrap (5 * (x.length:Int))))) s=s+((l.map csz).sum:Nat)
 | [],s,_,_,_=>by simp
 | x :: l,s,h0,hx,hb=>by
  have hx1:=hx x List.mem_cons_self
  simp only [List.length_cons] at hb
  rw [List.foldl_cons,wrap_id (x:=5 * (x.length:Int)) (by omega),wrap_id (x:=1+5 * (x.length:Int)) (by omega),wrap_id (by omega),csum_fold l _ (by omega) (fun y hy=>hx y (List.mem_cons_of_mem _ hy)) (by omega),List.map_cons,List.sum_cons,csz]
  omega
theorem FontError_L3 (F:Nat) (hF:1000≤F) {a0:S_Font} {i n:Nat} {x:S_FontGlyph} (hx:a0.f1[i]? = some x) (hgo:GlyOk n x) (s:Int) (h0:0≤s) (hs:s≤1000000):ref3_FontError_L3 F a0 i F s 0=some (s+((x.f1.map csz).sum:Nat)):=by
 have hc:=hgo.cons
 have h:=range_fold x.f1 (fun n s j=>ref3_FontError_L3 F a0 i n s j) (fun s x=>IntKind.i64.wrap (s+IntKind.i64.wrap (1+IntKind.i64.wrap (5 * (x.length:Int))))) (fun _ _=>True) (fun n s j y hy _=>by
  have hj:=lt_of_get hy
  refine ⟨?_,trivial⟩
  simp only [ref3_FontError_L3,Int.toNat_natCast,getD_of hx,dec_lt hj,cond_true,chk_in hj,lett_eq,getD_of hy,wrap_succ (show j < 9223372036854775807 by omega)])
  (fun n s _=>by simp only [ref3_FontError_L3,Int.toNat_natCast,getD_of hx,dec_end,cond_false]) F (by omega) s trivial
 rw [h,csum_fold _ s h0 hgo.con (by omega)]
theorem FontError_L1 (F:Nat) (hF:1000≤F) (a0:S_Font) (hl:a0.f1.length≤128) (s0:Int) (hs0:0≤s0) (hs1:s0≤2000):ref3_FontError_L1 F a0 F s0 0=some (runT (ceF (a0.f1.length:Int)) (fun s=>.go s) 0 a0.f1 s0):=by
 refine range_tot a0.f1 (fun n s i=>ref3_FontError_L1 F a0 n s i) (ceF (a0.f1.length:Int)) (fun s=>.go s) (fun i s=>0≤s∧s≤2000+1312 * i) (fun n s i x hx hs=>?_) (fun n s _=>by simp only [ref3_FontError_L1,dec_end,cond_false]) F (by omega) s0 ⟨hs0,by omega⟩
 have hi:=lt_of_get hx
 by_cases h:glyE (a0.f1.length:Int) x=0
 ·have hgo:=glyOk a0.f1.length x h
  have hp:=hgo.parts
  have hz:=gsz_le hgo
  have hcs:gsz x=4+5 * x.f2.length+(x.f1.map csz).sum:=rfl
  constructor
  ·simp only [ref3_FontError_L1,dec_lt hi,cond_true,chk_in hi,Int.toNat_natCast,getD_of hx,glyphError_eq F (show 40≤F by omega),call_some,wrap_succ (show i < 9223372036854775807 by omega),ceF,h,bne_self_eq_false,cond_false,lett_eq,if_true]
   rw [wrap_id (x:=5 * (x.f2.length:Int)) (by omega),wrap_id (x:=4+5 * (x.f2.length:Int)) (by omega),wrap_id (x:=s+(4+5 * (x.f2.length:Int))) (by omega),FontError_L3 F hF hx hgo _ (by omega) (by omega),call_some,hcs]
   congr 1
   omega
  ·intro s' he
   simp only [ceF,h,if_true] at he
   cases he
   omega
 ·constructor
  ·have h2:(glyE (a0.f1.length:Int) x != 0)=true:=by simpa using h
   simp only [ref3_FontError_L1,dec_lt hi,cond_true,chk_in hi,Int.toNat_natCast,getD_of hx,glyphError_eq F (show 40≤F by omega),call_some,ceF,h,h2,if_false]
  ·intro s' he
   simp only [ceF,h,if_false] at he
   cases he
theorem glyphs_rel (n:Int):∀ (l:List S_FontGlyph) (i:Nat) (s:Int),
  (∃ e,e≠0∧runT (ckF n) (fun _=>Out.go ()) i l ()=.esc e∧runT (ceF n) (fun s=>Out.go s) i l s=.esc e) ∨
  (runT (ckF n) (fun _=>Out.go ()) i l ()=.go ()∧runT (ceF n) (fun s=>Out.go s) i l s=.go (s+((l.map gsz).sum:Nat))∧∀ x∈l,glyE n x=0)
 | [],i,s=>.inr ⟨rfl,by simp [runT],fun x hx=>by cases hx⟩
 | x :: l,i,s=>by
  by_cases h:glyE n x=0
  ·have e1:runT (ckF n) (fun _=>Out.go ()) i (x :: l) ()=runT (ckF n) (fun _=>Out.go ()) (i+1) l ():=by rw [runT,ckF,if_pos h]
   have e2:runT (ceF n) (fun s=>Out.go s) i (x :: l) s=runT (ceF n) (fun s=>Out.go s) (i+1) l (s+(gsz x:Nat)):=by rw [runT,ceF,if_pos h]
   rw [e1,e2]
   rcases glyphs_rel n l (i+1) (s+(gsz x:Nat)) with ⟨e,h0,h1,h2⟩ | ⟨h1,h2,h3⟩
   ·exact .inl ⟨e,h0,h1,h2⟩
   ·refine .inr ⟨h1,?_,fun y hy=>?_⟩
    ·rw [h2,List.map_cons,List.sum_cons]
     congr 1
     omega
    ·rcases List.mem_cons.1 hy with rfl | hy
     ·exact h
     ·exact h3 y hy
  ·exact .inl ⟨glyE n x,h,by rw [runT,ckF,if_neg h],by rw [runT,ceF,if_neg h]⟩
/-! ### The levels -/
def lvF (a0:S_Font) (_:Nat) (x:Nat) (_:Unit):Unit ⊕ Out Unit Int:=match fT a0 x with
 | some y=>if 4 < y.1 then .inr (.esc 15) else if 512 < y.2 then .inr (.esc 2) else .inl ()
 | none=>.inl ()
def lvOut (a0:S_Font):Out Unit Int:=runT (lvF a0) (fun _=>.go ()) 0 (List.range a0.f1.length) ()
theorem range_get {n i x:Nat} (h:(List.range n)[i]? = some x):x=i∧i < n:=by
 have hi:=lt_of_get h
 rw [List.length_range] at hi
 rw [List.getElem?_range hi] at h
 exact ⟨(Option.some.inj h).symm,hi⟩
theorem check_L5 (F:Nat) (hF:1000≤F) {a0:S_Font} (ok:FontOk a0) (c:List S_font_nest) (hc:c.length=a0.f1.length) (hv:∀ x < a0.f1.length,∃ d s,fT a0 x=some (d,s)∧nst c x=⟨2,(d:Int),((min s 1048576:Nat):Int)⟩) :
  font_Check_L5 F c F 0=some (lvOut a0):=by
 have hlen:=ok.len
 refine range_tot (List.range a0.f1.length) (fun n (_:Unit) i=>font_Check_L5 F c n i) (lvF a0) (fun _=>.go ()) (fun _ _=>True) (fun n s i x hx _=>?_) (fun n s _=>by rw [List.length_range,← hc]; simp only [font_Check_L5,dec_end,cond_false]) F (by rw [List.length_range]; omega) () trivial
 obtain ⟨rfl,hi⟩:=range_get hx
 refine ⟨?_,fun _ _=>trivial⟩
 obtain ⟨d,e,ht,hn⟩:=hv x hi
 have hic:x < c.length:=by omega
 simp only [font_Check_L5,dec_lt hic,cond_true,chk_in hic,Int.toNat_natCast,nst_eq,hn,wrap_succ (show x < 9223372036854775807 by omega),lvF,ht]
 by_cases h1:4 < d
 ·rw [show decide ((d:Int) > 4)=true by simp; omega,if_pos h1]
  rfl
 ·rw [show decide ((d:Int) > 4)=false by simp; omega,if_neg h1]
  by_cases h2:512 < e
  ·rw [show decide (((min e 1048576:Nat):Int) > 512)=true by simp only [decide_eq_true_eq]; omega,if_pos h2]
   rfl
  ·rw [show decide (((min e 1048576:Nat):Int) > 512)=false by simp only [decide_eq_false_iff_not]; omega,if_neg h2]
   rfl
theorem FontError_L5 (F:Nat) (hF:1000≤F) {a0:S_Font} (ok:FontOk a0) (v w:List Int) (b:Bool) (h1:v.length=a0.f1.length) (h2:w.length=a0.f1.length) (hv:∀ x < a0.f1.length,∃ d e,fT a0 x=some (d,e)∧v.getD x 0=(d:Int)∧w.getD x 0=((min e 1073741824:Nat):Int)) :
  ref3_FontError_L5 F a0 (v,w,b) F 0=some (lvOut a0):=by
 have hlen:=ok.len
 refine range_tot (List.range a0.f1.length) (fun n (_:Unit) i=>ref3_FontError_L5 F a0 (v,w,b) n i) (lvF a0) (fun _=>.go ()) (fun _ _=>True) (fun n s i x hx _=>?_) (fun n s _=>by rw [List.length_range]; simp only [ref3_FontError_L5,dec_end,cond_false]) F (by rw [List.length_range]; omega) () trivial
 obtain ⟨rfl,hi⟩:=range_get hx
 refine ⟨?_,fun _ _=>trivial⟩
 obtain ⟨d,e,ht,hn,hm⟩:=hv x hi
 have hi1:x < v.length:=by omega
 have hi2:x < w.length:=by omega
 simp only [ref3_FontError_L5,dec_lt hi,cond_true,chk_in hi1,chk_in hi2,Int.toNat_natCast,hn,hm,wrap_succ (show x < 9223372036854775807 by omega),lvF,ht]
 by_cases h1:4 < d
 ·rw [show decide ((d:Int) > 4)=true by simp; omega,if_pos h1]
  rfl
 ·rw [show decide ((d:Int) > 4)=false by simp; omega,if_neg h1]
  by_cases h2:512 < e
  ·rw [show decide (((min e 1073741824:Nat):Int) > 512)=true by simp only [decide_eq_true_eq]; omega,if_pos h2]
   rfl
  ·rw [show decide (((min e 1073741824:Nat):Int) > 512)=false by simp only [decide_eq_false_iff_not]; omega,if_neg h2]
   rfl
/-! ### Together -/
/-- What a font without error is like. -/
structure FontGood (a0:S_Font):Prop where
 ok:FontOk a0
 maps:a0.f2.length≤64
 kern:a0.f3.length≤128
 tab:tabE a0=0
 dep:∀ x < a0.f1.length,∃ d s,fT a0 x=some (d,s)∧d≤4∧s≤512
theorem lvOut_ok {a0:S_Font} (hv:∀ x < a0.f1.length,∃ d s,fT a0 x=some (d,s)):(∃ e,e≠0∧lvOut a0=.esc e)∨(lvOut a0=.go ()∧∀ x < a0.f1.length,∃ d s,fT a0 x=some (d,s)∧d≤4∧s≤512):=by
 have key:∀ (l:List Nat) (i:Nat),(∀ x∈l,x < a0.f1.length)→(∃ e,e≠0∧runT (lvF a0) (fun _=>(Out.go ():Out Unit Int)) i l ()=.esc e) ∨
   (runT (lvF a0) (fun _=>(Out.go ():Out Unit Int)) i l ()=.go ()∧∀ x∈l,∃ d s,fT a0 x=some (d,s)∧d≤4∧s≤512):=by
  intro l
  induction l with
  | nil=>intro i _; exact .inr ⟨rfl,fun x hx=>by cases hx⟩
  | cons x l ih =>
   intro i hl
   obtain ⟨d,s,ht⟩:=hv x (hl x List.mem_cons_self)
   rw [runT,lvF,ht]
   by_cases h1:4 < d
   ·exact .inl ⟨15,by decide,by simp only [h1,if_true]⟩
   ·by_cases h2:512 < s
    ·exact .inl ⟨2,by decide,by simp only [h1,h2,if_true,if_false]⟩
    ·simp only [h1,h2,if_false]
     rcases ih (i+1) (fun y hy=>hl y (List.mem_cons_of_mem _ hy)) with h | ⟨h,h3⟩
     ·exact .inl h
     ·refine .inr ⟨h,fun y hy=>?_⟩
      rcases List.mem_cons.1 hy with rfl | hy
      ·exact ⟨d,s,ht,by omega,by omega⟩
      ·exact h3 y hy
 rcases key (List.range a0.f1.length) 0 (fun x hx=>List.mem_range.1 hx) with h | ⟨h1,h2⟩
 ·exact .inl h
 ·exact .inr ⟨h1,fun x hx=>h2 x (List.mem_range.2 hx)⟩
theorem check_eq (F:Nat) (hF:300000≤F) (a0:S_Font):∃ e,font_Check F a0=some e∧ref3_FontError F a0=some e∧(e=0→FontGood a0):=by
 unfold font_Check ref3_FontError
 simp only [lett_eq,or_cond]
 cases decide (a0.f0 < 16) || decide (a0.f0 > 1024)
 ·cases (a0.f1.length:Int) == 0
  ·cases hl:(decide ((a0.f1.length:Int) > 128) || decide ((a0.f2.length:Int) > 64)) || decide ((a0.f3.length:Int) > 128)
   ·have hl2:a0.f1.length≤128∧a0.f2.length≤64∧a0.f3.length≤128:=by
     simp only [Bool.or_eq_false_iff,decide_eq_false_iff_not] at hl
     omega
    obtain ⟨k1,k2,k3⟩:=hl2
    simp only [cond_false]
    rw [check_L1 F (by omega) a0 k1,tables_eq F (by omega) a0 k1 k2 k3,mapError_eq F (by omega) a0 k1 k2 k3]
    simp only [call_some]
    rw [wrap_id (x:=7 * (a0.f2.length:Int)) (by omega),wrap_id (x:=27+7 * (a0.f2.length:Int)) (by omega),wrap_id (x:=4 * (a0.f3.length:Int)) (by omega),wrap_id (by omega),FontError_L1 F (by omega) a0 k1 _ (by omega) (by omega)]
    rcases glyphs_rel (a0.f1.length:Int) a0.f1 0 (27+7 * (a0.f2.length:Int)+4 * (a0.f3.length:Int)) with ⟨e,h0,h1,h2⟩ | ⟨h1,h2,h3⟩
    ·rw [h1,h2]
     exact ⟨e,rfl,rfl,fun h=>absurd h h0⟩
    ·rw [h1,h2,callE_go,callE_go]
     have ok:FontOk a0:=⟨k1,fun g hg=>glyOk _ _ (h3 _ (by
      unfold gly
      rw [List.getD_eq_getElem?_getD,List.getElem?_eq_getElem hg]
      exact List.getElem_mem hg))⟩
     by_cases ht:tabE a0=0
     ·rw [ht]
      simp only [bne_self_eq_false,cond_false]
      rw [chk_pos (by omega),Int.toNat_natCast]
      obtain ⟨l,hw,hwl⟩:=written_ex F hF ok k2 k3
      rcases visits ok F (by omega) with ⟨hv,x,hx,hn⟩ | ⟨c,hv,hcl,hcv⟩
      ·rw [hv]
       rcases nested_eq F (by omega) ok with ⟨v,w,he,_⟩ | ⟨v,w,_,_,_,hall⟩
       ·rw [he]
        exact ⟨13,rfl,rfl,fun h=>absurd h (by decide)⟩
       ·obtain ⟨d,e,hd,_⟩:=hall x hx
        rw [hn] at hd
        cases hd
      ·rw [hv]
       rcases nested_eq F (by omega) ok with ⟨v,w,_,x,hx,hn⟩ | ⟨v,w,he,l1,l2,hall⟩
       ·obtain ⟨d,e,hd,_⟩:=hcv x hx
        rw [hn] at hd
        cases hd
       ·rw [he,callE_go,call_some]
        simp only [Bool.not_true,cond_false]
        rw [check_L5 F (by omega) ok c hcl hcv,FontError_L5 F (by omega) ok v w true l1 l2 hall]
        rcases lvOut_ok (a0:=a0) (fun x hx=>by obtain ⟨d,s,h,_⟩:=hcv x hx; exact ⟨d,s,h⟩) with ⟨e,h0,he⟩ | ⟨hgo,hlv⟩
        ·rw [he]
         exact ⟨e,rfl,rfl,fun h=>absurd h h0⟩
        ·rw [hgo,callE_go,callE_go,hw,call_some]
         rw [show decide ((l.length:Int) > 4096)=decide (27+7 * (a0.f2.length:Int)+4 * (a0.f3.length:Int)+((a0.f1.map gsz).sum:Nat) > 4096) from decide_eq_decide.2 (by omega)]
         cases decide (27+7 * (a0.f2.length:Int)+4 * (a0.f3.length:Int)+((a0.f1.map gsz).sum:Nat) > 4096)
         ·exact ⟨_,rfl,rfl,fun _=>⟨ok,k2,k3,ht,hlv⟩⟩
         ·exact ⟨_,rfl,rfl,fun h=>absurd h (by decide)⟩
     ·have h2:(tabE a0 != 0)=true:=by simpa using ht
      rw [h2]
      exact ⟨_,rfl,rfl,fun h=>absurd h ht⟩
   ·exact ⟨2,rfl,rfl,fun h=>absurd h (by decide)⟩
  ·exact ⟨8,rfl,rfl,fun h=>absurd h (by decide)⟩
 ·exact ⟨3,rfl,rfl,fun h=>absurd h (by decide)⟩
end Go.Vm.SubG
