/-
  PREPRESS,PLAIN,part 5: the text of a condition,by levels and by kinds.
-/
import Derived.Test.YtcjnhgcbefkbcaaGreatDoorPreLd
namespace Go.Vm.PreG
abbrev cmpW:List (List UInt8):=[([60]:List UInt8),[60,61],[61],[33,61],[62,61],[62]]
abbrev cmpS:List (List UInt8):=[([32,60,32]:List UInt8),[32,60,61,32],[32,61,32],[32,33,61,32],[32,62,61,32],[32,62,32]]
theorem cmp_same {x:Int} (h:0≤x∧x≤5):([32]:List UInt8)++cmpW.getD x.toNat []++[32]=cmpS.getD x.toNat []∧(cmpW.getD x.toNat []).length≤2:=by
  have:x=0∨x=1∨x=2∨x=3∨x=4∨x=5:=by omega
  rcases this with rfl | rfl | rfl | rfl | rfl | rfl <;> exact ⟨rfl,by decide⟩
def cmpT (c:S_PrepressCond):List UInt8:=termsT 0 c.f1++cmpS.getD c.f2.toNat []++Lib.itoa c.f3
def paren (b:Bool) (s:List UInt8):List UInt8:=bif b then [40]++s++[41] else s
def txt:Nat→S_PrepressCond→List UInt8
  | 0,_=>[]
  | m+1,c =>
    bif c.f0 == 0 then cmpT c
    else bif c.f0 == 1 then [110,111,116,32]++paren (decide ((c.f4.getD 0 c0).f0 ≥ 2)) (txt m (c.f4.getD 0 c0))
    else bif c.f0 == 2 then paren ((c.f4.getD 0 c0).f0 == 3) (txt m (c.f4.getD 0 c0))++[32,97,110,100,32]++paren (decide ((c.f4.getD 1 c0).f0 ≥ 2)) (txt m (c.f4.getD 1 c0))
    else txt m (c.f4.getD 0 c0)++[32,111,114,32]++paren ((c.f4.getD 1 c0).f0 == 3) (txt m (c.f4.getD 1 c0))
theorem paren_len (b:Bool) (s:List UInt8):(paren b s).length≤s.length+2:=by unfold paren; cases b <;> simp
theorem good_kind:∀ {m:Nat} {c:S_PrepressCond},Good m c→c.f0=0∨c.f0=1∨c.f0=2∨c.f0=3
  | _+1,_,h=>by
    rcases h with ⟨h,_⟩ | ⟨h,_⟩ | ⟨h,_⟩ <;> omega
theorem cmpS_len {x:Int} (h:0≤x∧x≤5):(cmpS.getD x.toNat []).length≤4:=by
  have:x=0∨x=1∨x=2∨x=3∨x=4∨x=5:=by omega
  rcases this with rfl | rfl | rfl | rfl | rfl | rfl <;> decide
theorem cmpT_len {c:S_PrepressCond} (h:CmpOk c):(cmpT c).length≤208:=by
  have h1:=termsT_len c.f1 0 h.terms
  have h2:=cmpS_len h.kind
  have h3:=h.than
  have h4:=itoa_le (x:=c.f3) (by omega)
  have h5:=h.many
  unfold cmpT
  simp only [List.length_append]
  omega
theorem txt_len:∀ {m:Nat} {c:S_PrepressCond},Good m c→(txt m c).length+40≤300 * 2 ^ m
  | m+1,c,h=>by
    have hp:1≤2 ^ m:=Nat.one_le_two_pow
    rw [Nat.pow_succ]
    rcases h with ⟨h0,h1⟩ | ⟨h0,a,ha,h1,_⟩ | ⟨h0,a,b,ha,h1,h2,_⟩
    · have hb:(c.f0 == 0)=true:=by simpa using h0
      have:=cmpT_len h1
      rw [txt,hb,cond_true]
      omega
    · have hb:(c.f0 == 0)=false:=by simp; omega
      have hb1:(c.f0 == 1)=true:=by simpa using h0
      have h3:=txt_len h1
      have h4:=paren_len (decide (a.f0 ≥ 2)) (txt m a)
      rw [txt,hb,cond_false,hb1,cond_true,ha,List.getD_cons_zero]
      simp only [List.length_append,List.length_cons,List.length_nil]
      omega
    · have hb:(c.f0 == 0)=false:=by simp; omega
      have hb1:(c.f0 == 1)=false:=by simp; omega
      have h3:=txt_len h1
      have h4:=txt_len h2
      have h5:=paren_len (a.f0 == 3) (txt m a)
      have h6:=paren_len (decide (b.f0 ≥ 2)) (txt m b)
      have h7:=paren_len (b.f0 == 3) (txt m b)
      rw [txt,hb,cond_false,hb1,cond_false,ha,List.getD_cons_zero,List.getD_cons_succ,List.getD_cons_zero]
      cases c.f0 == 2
      · simp only [cond_false,List.length_append,List.length_cons,List.length_nil]
        omega
      · simp only [cond_true,List.length_append,List.length_cons,List.length_nil]
        omega
theorem pow_le {m:Nat} (h:m≤12):300 * 2 ^ m≤1228800:=by
  have:2 ^ m≤2 ^ 12:=Nat.pow_le_pow_right (by omega) h
  omega
def lv (x:Int):Int:=bif x == 0 then 3 else bif x == 1 then 3 else bif x == 2 then 2 else 1
theorem level_eq (F:Nat) {x:Int} (h:x=0∨x=1∨x=2∨x=3):prepress_level F x=some (lv x):=by
  rcases h with rfl | rfl | rfl | rfl <;> rfl
theorem lv3 {x:Int} (h:x=0∨x=1∨x=2∨x=3):decide (lv x < 3)=decide (x ≥ 2):=by rcases h with rfl | rfl | rfl | rfl <;> decide
theorem lv2 {x:Int} (h:x=0∨x=1∨x=2∨x=3):decide (lv x < 2)=(x == 3):=by rcases h with rfl | rfl | rfl | rfl <;> decide
theorem lv1 {x:Int} (h:x=0∨x=1∨x=2∨x=3):decide (lv x < 1)=false:=by rcases h with rfl | rfl | rfl | rfl <;> decide
theorem lv0 {x:Int} (h:x=0∨x=1∨x=2∨x=3):decide (lv x < 0)=false:=by rcases h with rfl | rfl | rfl | rfl <;> decide
theorem mk_eta (c:S_PrepressCond):S_PrepressCond.mk c.f0 c.f1 c.f2 c.f3 c.f4=c:=by cases c; rfl
theorem show_eq {F:Nat} (hF:4294967300≤F):∀ (m:Nat) (c:S_PrepressCond) (n:Nat) (l:Int),m≤12→Good m c→m≤n→prepress_show_fuel F n c l=some (paren (decide (lv c.f0 < l)) (txt m c))
  | m+1,c,n,l,hm,h,hn=>by
    obtain ⟨n,rfl⟩:∃ q,n=q+1:=⟨n - 1,by omega⟩
    have hk:=good_kind h
    have hlen:=txt_len h
    have hpow:=pow_le hm
    have hlen':(txt (m+1) c).length≤1228800:=by omega
    -- the text itself
    suffices hbody:∃ K:List UInt8→Option (List UInt8),prepress_show_body F (prepress_show_fuel F n) c l=call (some (txt (m+1) c)) (fun v8=>call (prepress_level F c.f0) fun y7=>bif (decide (y7 < l)) then
        chk (([40]:List UInt8).length+v8.length≤9223372036854775807) <| chk ((([40]:List UInt8)++v8).length+([41]:List UInt8).length≤9223372036854775807) <| some ((([40]:List UInt8)++v8)++([41]:List UInt8)) else some v8) by
      obtain ⟨_,hbody⟩:=hbody
      rw [prepress_show_fuel,hbody,call_some,level_eq F hk,call_some]
      unfold paren
      cases decide (lv c.f0 < l)
      · rfl
      · rw [cond_true,chk_pos (by simp; omega),chk_pos (by simp; omega)]; rfl
    refine ⟨fun _=>none,?_⟩
    unfold prepress_show_body
    congr 1
    rcases h with ⟨h0,h1⟩ | ⟨h0,a,ha,h1,_⟩ | ⟨h0,a,b,ha,h1,h2,_⟩
    · have hb:(c.f0 == 0)=true:=by simpa using h0
      have hL:=show_L1 F c h1.terms h1.many c.f1.length 0 F [] (by omega) (by have:=h1.many; omega) (by have:=h1.many; simp; omega)
      have hL':prepress_show_L1 F c F [] (0:Int)=some (termsT 0 c.f1):=by simpa using hL
      have hT:=termsT_len c.f1 0 h1.terms
      have hM:=h1.many
      have hk2:=h1.kind
      have hth:=h1.than
      have hi:=itoa_le (x:=c.f3) (by omega)
      obtain ⟨hc1,hc2⟩:=cmp_same hk2
      dsimp only [cmpW] at hc1 hc2
      rw [hb,cond_true,hL',call_some]
      unfold prepress_comparisons
      rw [call_some,chk_pos (show 0≤c.f2∧c.f2 < ((cmpW.length:Nat):Int) from ⟨hk2.1,Int.lt_of_le_of_lt hk2.2 (by decide)⟩),chk_pos (by simp only [List.length_cons,List.length_nil]; omega),chk_pos (by simp only [List.length_append,List.length_cons,List.length_nil]; omega),chk_pos (by omega),chk_pos (by simp only [List.length_append,List.length_cons,List.length_nil]; omega),chk_pos (by simp only [List.length_append,List.length_cons,List.length_nil]; omega),lett_eq,txt,hb,cond_true]
      unfold cmpT
      rw [← hc1]
      simp only [List.append_assoc]
    · have hb:(c.f0 == 0)=false:=by simp; omega
      have hb1:(c.f0 == 1)=true:=by simpa using h0
      have ih:=show_eq hF m a n 3 (by omega) h1 (by omega)
      have hl:=txt_len h1
      have hp:=pow_le (m:=m) (by omega)
      have hpl:=paren_len (decide (lv a.f0 < 3)) (txt m a)
      rw [hb,cond_false,hb1,cond_true,ha,chk_pos (by simp),show (0:Int).toNat=0 from rfl,List.getD_cons_zero,ih,call_some,chk_pos (by simp only [List.length_cons,List.length_nil]; omega),txt,hb,cond_false,hb1,cond_true,ha,List.getD_cons_zero,lv3 (good_kind h1)]
    · have hb:(c.f0 == 0)=false:=by simp; omega
      have hb1:(c.f0 == 1)=false:=by simp; omega
      have hl:=txt_len h1
      have hl2:=txt_len h2
      have hp:=pow_le (m:=m) (by omega)
      rw [hb,cond_false,hb1,cond_false,ha,txt,hb,cond_false,hb1,cond_false,ha]
      simp only [show (0:Int).toNat=0 from rfl,show (1:Int).toNat=1 from rfl,List.getD_cons_zero,List.getD_cons_succ]
      rcases h0 with h0 | h0
      · have hb2:(c.f0 == 2)=true:=by simpa using h0
        have hpl:=paren_len (decide (lv a.f0 < 2)) (txt m a)
        have hpl2:=paren_len (decide (lv b.f0 < 3)) (txt m b)
        rw [hb2,cond_true,cond_true,chk_pos (by simp),show_eq hF m a n 2 (by omega) h1 (by omega),call_some,chk_pos (by simp only [List.length_cons,List.length_nil]; omega),chk_pos (by simp),show_eq hF m b n 3 (by omega) h2 (by omega),call_some,chk_pos (by simp only [List.length_append,List.length_cons,List.length_nil]; omega),lv2 (good_kind h1),lv3 (good_kind h2)]
      · have hb2:(c.f0 == 2)=false:=by simp; omega
        have hpl2:=paren_len (decide (lv b.f0 < 2)) (txt m b)
        have e1:paren (decide (lv a.f0 < 1)) (txt m a)=txt m a:=by rw [lv1 (good_kind h1)]; rfl
        rw [hb2,cond_false,cond_false,chk_pos (by simp),show_eq hF m a n 1 (by omega) h1 (by omega),call_some,e1,chk_pos (by simp only [List.length_cons,List.length_nil]; omega),chk_pos (by simp),show_eq hF m b n 2 (by omega) h2 (by omega),call_some,chk_pos (by simp only [List.length_append,List.length_cons,List.length_nil]; omega),lv2 (good_kind h2)]
theorem around_eq {F m n:Nat} {a:S_PrepressCond} {b:Bool} (hm:m≤12) (h:Good m a) (hr:ref3_condText_fuel F n a=some (txt m a)):ref3_condText_c1 F (ref3_condText_fuel F n) a b=some (paren b (txt m a)):=by
  have hl:=txt_len h
  have hp:=pow_le hm
  unfold ref3_condText_c1 paren
  rw [hr,call_some,call_some]
  cases b
  · rfl
  · rw [cond_true,chk_pos (by simp; omega),chk_pos (by simp; omega)]; rfl
theorem condText_eq {F:Nat} (hF:4294967300≤F):∀ (m:Nat) (c:S_PrepressCond) (n:Nat),m≤12→Good m c→m≤n→ref3_condText_fuel F n c=some (txt m c)
  | m+1,c,n,hm,h,hn=>by
    obtain ⟨n,rfl⟩:∃ q,n=q+1:=⟨n - 1,by omega⟩
    rw [ref3_condText_fuel]
    unfold ref3_condText_body
    rcases h with ⟨h0,h1⟩ | ⟨h0,a,ha,h1,_⟩ | ⟨h0,a,b,ha,h1,h2,_⟩
    · have hb:(c.f0 == 0)=true:=by simpa using h0
      have hb1:(c.f0 == 1)=false:=by simp; omega
      have hb2:(c.f0 == 2)=false:=by simp; omega
      have hb3:(c.f0 == 3)=false:=by simp; omega
      have hL:=ref_L1 hF c h1.terms h1.many c.f1.length 0 F [] (by omega) (by have:=h1.many; omega) (by have:=h1.many; simp; omega)
      have hL':ref3_condText_L1 F c F [] (0:Int)=some (termsT 0 c.f1):=by simpa using hL
      have hT:=termsT_len c.f1 0 h1.terms
      have hM:=h1.many
      have hk2:=h1.kind
      have hth:=h1.than
      have hi:=itoa_le (x:=c.f3) (by omega)
      have hcl:=cmpS_len hk2
      dsimp only [cmpS] at hcl
      rw [hb1,cond_false,hb2,cond_false,hb3,cond_false,hL',call_some,chk_pos (show 0≤c.f2∧c.f2 < ((cmpS.length:Nat):Int) from ⟨hk2.1,Int.lt_of_le_of_lt hk2.2 (by decide)⟩),lett_eq,chk_pos (by omega),Decimal_eq hF (by omega),call_some,chk_pos (by simp only [List.length_append]; omega),txt,hb,cond_true]
      rfl
    · have hb:(c.f0 == 0)=false:=by simp; omega
      have hb1:(c.f0 == 1)=true:=by simpa using h0
      have ih:=condText_eq hF m a n (by omega) h1 (by omega)
      have hl:=txt_len h1
      have hp:=pow_le (m:=m) (by omega)
      have hpl:=paren_len (decide (a.f0 ≥ 2)) (txt m a)
      rw [hb1,cond_true,ha,chk_pos (by simp),chk_pos (by simp),show (0:Int).toNat=0 from rfl,List.getD_cons_zero,around_eq (by omega) h1 ih,call_some,chk_pos (by simp only [List.length_cons,List.length_nil]; omega),txt,hb,cond_false,hb1,cond_true,ha,List.getD_cons_zero]
    · have hb:(c.f0 == 0)=false:=by simp; omega
      have hb1:(c.f0 == 1)=false:=by simp; omega
      have hl:=txt_len h1
      have hl2:=txt_len h2
      have hp:=pow_le (m:=m) (by omega)
      have ih1:=condText_eq hF m a n (by omega) h1 (by omega)
      have ih2:=condText_eq hF m b n (by omega) h2 (by omega)
      rw [hb1,cond_false,ha,txt,hb,cond_false,hb1,cond_false,ha]
      simp only [show (0:Int).toNat=0 from rfl,show (1:Int).toNat=1 from rfl,List.getD_cons_zero,List.getD_cons_succ,mk_eta]
      rcases h0 with h0 | h0
      · have hb2:(c.f0 == 2)=true:=by simpa using h0
        have hpl:=paren_len (a.f0 == 3) (txt m a)
        have hpl2:=paren_len (decide (b.f0 ≥ 2)) (txt m b)
        rw [hb2,cond_true,cond_true,chk_pos (by simp),chk_pos (by simp),around_eq (by omega) h1 ih1,call_some,chk_pos (by simp only [List.length_cons,List.length_nil]; omega),around_eq (by omega) h2 ih2,call_some,chk_pos (by simp only [List.length_append,List.length_cons,List.length_nil]; omega)]
      · have hb2:(c.f0 == 2)=false:=by simp; omega
        have hb3:(c.f0 == 3)=true:=by simpa using h0
        have hpl2:=paren_len (b.f0 == 3) (txt m b)
        rw [hb2,cond_false,hb3,cond_true,cond_false,chk_pos (by simp),ih1,call_some,chk_pos (by simp only [List.length_cons,List.length_nil]; omega),chk_pos (by simp),chk_pos (by simp),around_eq (by omega) h2 ih2,call_some,chk_pos (by simp only [List.length_append,List.length_cons,List.length_nil]; omega)]
end Go.Vm.PreG
