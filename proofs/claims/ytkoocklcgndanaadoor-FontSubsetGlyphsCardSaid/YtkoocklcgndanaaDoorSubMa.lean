/-
  FONT SUBSET,PLAIN,part 1: what Check answers of a font whose glyphs and tables are in order; and what a font without error is like.
-/
import Derived.Test.YtkoocklcgndanaaDoorSubLg
import Derived.Test.YtkoocklcgndanaaDoorSubLh
namespace Go.Vm.SubG
theorem ck_go (n:Int):∀ (l:List S_FontGlyph) (i:Nat),(∀ x∈l,glyE n x=0)→runT (ckF n) (fun _=>(Out.go ():Out Unit Int)) i l ()=.go ()
 | [],_,_=>rfl
 | x :: l,i,h=>by
  rw [runT,ckF,if_pos (h x List.mem_cons_self)]
  exact ck_go n l (i+1) fun y hy=>h y (List.mem_cons_of_mem _ hy)
theorem lv_go (a0:S_Font):∀ (l:List Nat) (i:Nat),(∀ x∈l,∃ d s,fT a0 x=some (d,s)∧d≤4∧s≤512)→runT (lvF a0) (fun _=>(Out.go ():Out Unit Int)) i l ()=.go ()
 | [],_,_=>rfl
 | x :: l,i,h=>by
  obtain ⟨d,s,ht,h1,h2⟩:=h x List.mem_cons_self
  have e:lvF a0 i x ()=.inl ():=by
   simp only [lvF,ht]
   rw [if_neg (by omega),if_neg (by omega)]
  rw [runT,e]
  exact lv_go a0 l (i+1) fun y hy=>h y (List.mem_cons_of_mem _ hy)
/-- The length of what a font is written as. -/
def wsz (a0:S_Font):Nat:=27+7 * a0.f2.length+4 * a0.f3.length+(a0.f1.map gsz).sum
theorem check_val (F:Nat) (hF:300000≤F) (a0:S_Font) (hu:16≤a0.f0∧a0.f0≤1024) (h0:0 < a0.f1.length) (k1:a0.f1.length≤128) (k3:a0.f3.length≤128) (hg:∀ x∈a0.f1,glyE a0.f1.length x=0) (ht:tabE a0=0)
  (hl:∀ x < a0.f1.length,∃ d s,fT a0 x=some (d,s)∧d≤4∧s≤512):font_Check F a0=some (if 64 < a0.f2.length∨4096 < wsz a0 then 2 else 0):=by
 unfold font_Check
 simp only [lett_eq,or_cond]
 rw [show (decide (a0.f0 < 16) || decide (a0.f0 > 1024))=false by simp; omega,show ((a0.f1.length:Int) == 0)=false by rw [beq_eq_false_iff_ne]; omega]
 simp only [cond_false]
 by_cases k2:a0.f2.length≤64
 ·rw [show ((decide ((a0.f1.length:Int) > 128) || decide ((a0.f2.length:Int) > 64)) || decide ((a0.f3.length:Int) > 128))=false by simp; omega]
  simp only [cond_false]
  rw [check_L1 F (by omega) a0 k1,tables_eq F (by omega) a0 k1 k2 k3,ck_go _ _ _ hg,callE_go,call_some,ht]
  simp only [bne_self_eq_false,cond_false]
  rw [chk_pos (by omega),Int.toNat_natCast]
  have ok:FontOk a0:=⟨k1,fun g hg'=>glyOk _ _ (hg _ (by
   unfold gly
   rw [List.getD_eq_getElem?_getD,List.getElem?_eq_getElem hg']
   exact List.getElem_mem hg'))⟩
  obtain ⟨l,hw,hwl⟩:=written_ex F hF ok k2 k3
  rcases visits ok F (by omega) with ⟨hv,x,hx,hn⟩ | ⟨c,hv,hcl,hcv⟩
  ·obtain ⟨d,s,h,_⟩:=hl x hx
   rw [hn] at h
   cases h
  ·rw [hv,callE_go,check_L5 F (by omega) ok c hcl hcv]
   have hgo:lvOut a0=.go ():=lv_go a0 _ 0 fun x hx=>hl x (List.mem_range.1 hx)
   rw [hgo,callE_go,hw,call_some]
   by_cases hbig:4096 < wsz a0
   ·rw [if_pos (.inr hbig),show decide ((l.length:Int) > 4096)=true by simp only [decide_eq_true_eq]; unfold wsz at hbig; omega]
    rfl
   ·rw [if_neg (by omega),show decide ((l.length:Int) > 4096)=false by simp only [decide_eq_false_iff_not]; unfold wsz at hbig; omega]
    rfl
 ·rw [show ((decide ((a0.f1.length:Int) > 128) || decide ((a0.f2.length:Int) > 64)) || decide ((a0.f3.length:Int) > 128))=true by simp; omega,if_pos (.inl (by omega))]
  rfl
/-- A font without error. -/
structure FontFull (a0:S_Font):Prop where
 good:FontGood a0
 unit:16≤a0.f0∧a0.f0≤1024
 pos:0 < a0.f1.length
 gly:∀ x∈a0.f1,glyE a0.f1.length x=0
 small:wsz a0≤4096
theorem check_full (F:Nat) (hF:300000≤F) (a0:S_Font) (h:font_Check F a0=some 0):FontFull a0:=by
 obtain ⟨e,h1,_,h3⟩:=check_eq F hF a0
 rw [h] at h1
 have good:=h3 (Option.some.inj h1).symm
 have k1:=good.ok.len
 have hp:(16≤a0.f0∧a0.f0≤1024)∧0 < a0.f1.length∧(∀ x∈a0.f1,glyE a0.f1.length x=0):=by
  unfold font_Check at h
  simp only [lett_eq,or_cond] at h
  cases q1:decide (a0.f0 < 16) || decide (a0.f0 > 1024)
  ·rw [q1] at h
   simp only [cond_false] at h
   cases q2:(a0.f1.length:Int) == 0
   ·rw [q2] at h
    simp only [cond_false] at h
    have hl:((decide ((a0.f1.length:Int) > 128) || decide ((a0.f2.length:Int) > 64)) || decide ((a0.f3.length:Int) > 128))=false:=by
     have:=good.maps; have:=good.kern
     simp; omega
    rw [hl] at h
    simp only [cond_false] at h
    rw [check_L1 F (by omega) a0 k1] at h
    rw [beq_eq_false_iff_ne] at q2
    refine ⟨by simp at q1; omega,by omega,?_⟩
    rcases glyphs_rel (a0.f1.length:Int) a0.f1 0 0 with ⟨e',h0,g1,_⟩ | ⟨_,_,g3⟩
    ·exfalso
     change callE (some (runT (ckF (a0.f1.length:Int)) (fun _=>Out.go ()) 0 a0.f1 ())) _ _=_ at h
     rw [g1] at h
     exact h0 (Option.some.inj h)
    ·exact g3
   ·rw [q2] at h
    cases h
  ·rw [q1] at h
   cases h
 refine ⟨good,hp.1,hp.2.1,hp.2.2,?_⟩
 have hv:=check_val F hF a0 hp.1 hp.2.1 k1 good.kern hp.2.2 good.tab good.dep
 rw [h] at hv
 by_cases hb:64 < a0.f2.length∨4096 < wsz a0
 ·rw [if_pos hb] at hv
  cases hv
 ·omega
end Go.Vm.SubG
