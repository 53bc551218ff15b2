/-
  token,plain law 3: kind by kind; the law TokenPrintSpelling.
-/
import Derived.Test.YtldmbabgcdmjcaaGreatDoorObjLc
namespace Go.Vm.ObjG
theorem isE {s:List UInt8} (h:¬ s=[]):s.isEmpty=false:=by cases s <;> simp_all
theorem nz {v:Int} (h:¬ v=0):(v != 0)=true:=by simpa using h
theorem both1 {F:Nat} (hF:4294967300≤F) (v:Int) (s:List UInt8) (p q:Int):∃ x,token_Print F ⟨1,v,s,p,q⟩=some x∧ref3_Spelled F ⟨1,v,s,p,q⟩=some x∧Shp 1 x:=by
  by_cases hs:s=[]
  · subst hs
    by_cases h1:v < -2147483647
    · exact ⟨([],3),by simp [token_Print,token_check,call_some,callE_go,callE_esc',lett_eq,h1],by simp [ref3_Spelled,call_some,callE_go,lett_eq,h1],shpE (by decide)⟩
    · by_cases h2:v > 2147483647
      · exact ⟨([],3),by simp [token_Print,token_check,call_some,callE_go,callE_esc',lett_eq,h1,h2],by simp [ref3_Spelled,call_some,callE_go,lett_eq,h1,h2],shpE (by decide)⟩
      · have hi : -9223372036854775808≤v∧v≤9223372036854775807:=⟨by omega,by omega⟩
        exact ⟨(Lib.itoa v,0),by simp [token_Print,token_check,call_some,callE_go,lett_eq,h1,h2,chk_pos hi],by simp [ref3_Spelled,call_some,callE_go,lett_eq,h1,h2,Decimal_eq hF (x:=v) ⟨by omega,by omega⟩],shp1 v ⟨by omega,by omega⟩⟩
  · exact ⟨([],4),by simp [token_Print,token_check,call_some,callE_esc',lett_eq,isE hs],by simp [ref3_Spelled,call_some,callE_go,lett_eq,isE hs],shpE (by decide)⟩
theorem both4 {F:Nat} (hF:4294967300≤F) (v:Int) (s:List UInt8) (p q:Int):∃ x,token_Print F ⟨4,v,s,p,q⟩=some x∧ref3_Spelled F ⟨4,v,s,p,q⟩=some x∧Shp 4 x:=by
  by_cases hs:s=[]
  · subst hs
    by_cases h1:v < 1
    · exact ⟨([],3),by simp [token_Print,token_check,call_some,callE_go,callE_esc',lett_eq,h1],by simp [ref3_Spelled,call_some,callE_go,lett_eq,h1],shpE (by decide)⟩
    · by_cases h2:v > 255
      · exact ⟨([],3),by simp [token_Print,token_check,call_some,callE_go,callE_esc',lett_eq,h1,h2],by simp [ref3_Spelled,call_some,callE_go,lett_eq,h1,h2],shpE (by decide)⟩
      · have hi : -9223372036854775808≤v∧v≤9223372036854775807:=⟨by omega,by omega⟩
        have hl:(Lib.itoa v).length≤1000:=by
          have:=decDigits_len v.toNat
          unfold Lib.itoa; rw [if_neg (by omega)]; omega
        have hl2:([64]:List UInt8).length+(Lib.itoa v).length≤9223372036854775807:=by simp; omega
        exact ⟨([64]++Lib.itoa v,0),by
            simp only [token_Print,token_check,call_some,callE_go,lett_eq]
            simp [call_some,callE_go,lett_eq,h1,h2,chk_pos hi]
            rw [chk_pos (by omega)],by
            simp [ref3_Spelled,call_some,callE_go,lett_eq,h1,h2,Decimal_eq hF (x:=v) ⟨by omega,by omega⟩]
            rw [chk_pos (by omega)],shp4 v ⟨by omega,by omega⟩⟩
  · exact ⟨([],4),by simp [token_Print,token_check,call_some,callE_esc',lett_eq,isE hs],by simp [ref3_Spelled,call_some,callE_go,lett_eq,isE hs],shpE (by decide)⟩
theorem both2 {F:Nat} (hF:4294967300≤F) (v:Int) (s:List UInt8) (p q:Int) (hs:s.length≤maxLen) (hF2:s.length < F):∃ x,token_Print F ⟨2,v,s,p,q⟩=some x∧ref3_Spelled F ⟨2,v,s,p,q⟩=some x∧Shp 2 x:=by
  by_cases hv:v=0
  · subst hv
    by_cases hn:s=[]
    · subst hn
      refine ⟨([],4),by simp [token_Print,token_check,call_some,callE_esc',lett_eq],?_,shpE (by decide)⟩
      have hL:ref3_Spelled_L0 F ⟨2,0,[],p,q⟩ F true 0=some true:=Spelled_L0 F ⟨2,0,[],p,q⟩ hs 0 0 F true rfl (by omega)
      simp [ref3_Spelled,call_some,callE_esc',lett_eq,hL]
    · have hz:=indexByte_zero s
      have hL:ref3_Spelled_L0 F ⟨2,0,s,p,q⟩ F false 0=some (false || s.any (fun c=>(c.toNat:Int) == 0)):=Spelled_L0 F ⟨2,0,s,p,q⟩ hs s.length 0 F false (by simp) hF2
      rw [Bool.false_or,← hz] at hL
      by_cases h0:0≤Lib.indexByte s 0
      · rw [decide_eq_true h0] at hL
        exact ⟨([],4),by simp [token_Print,token_check,call_some,callE_esc',lett_eq,isE hn,h0],by simp [ref3_Spelled,call_some,callE_esc',lett_eq,isE hn,hL],shpE (by decide)⟩
      · rw [decide_eq_false h0] at hL
        by_cases hl:(31:Int) < (s.length:Int)
        · exact ⟨([],2),by simp [token_Print,token_check,call_some,callE_esc',callE_go,lett_eq,isE hn,h0,hl],by simp [ref3_Spelled,call_some,callE_go,lett_eq,isE hn,hL,hl],shpE (by decide)⟩
        · have h1:token_printedName_L0 F s F [] 0=some ([]++s.flatMap nameB):=name_L0 F s (by omega) s.length 0 F [] (by omega) (by omega) (by simp; omega)
          have h2:ref3_Spelled_L3 F ⟨2,0,s,p,q⟩ F [] 0=some ([]++s.flatMap nameB):=spelledName_L3 F ⟨2,0,s,p,q⟩ rfl (by show s.length≤_; omega) s.length 0 F [] (by simp) (by omega) (by simp; omega)
          have hb:=flat_len nameB_len s
          rw [List.nil_append] at h1 h2
          have hsh:=shp2 hn (by omega)
          generalize s.flatMap nameB=r at *
          refine ⟨(47 :: r,0),?_,?_,hsh⟩
          · simp [token_Print,token_check,token_printedName,call_some,callE_go,lett_eq,isE hn,h0,hl,h1]
            rw [chk_pos (by omega),call_some,chk_pos (by omega)]
          · simp [ref3_Spelled,call_some,callE_go,lett_eq,isE hn,hL,hl,h2]
            rw [chk_pos (by omega)]
  · exact ⟨([],4),by simp [token_Print,token_check,call_some,callE_esc',lett_eq,nz hv],by simp [ref3_Spelled,call_some,lett_eq,nz hv],shpE (by decide)⟩
theorem both3 {F:Nat} (hF:4294967300≤F) (v:Int) (s:List UInt8) (p q:Int):∃ x,token_Print F ⟨3,v,s,p,q⟩=some x∧ref3_Spelled F ⟨3,v,s,p,q⟩=some x∧Shp 3 x:=by
  by_cases hv:v=0
  · subst hv
    by_cases hl:(1024:Int) < (s.length:Int)
    · exact ⟨([],2),by simp [token_Print,token_check,call_some,callE_esc',callE_go,lett_eq,hl],by simp [ref3_Spelled,call_some,callE_go,lett_eq,hl],shpE (by decide)⟩
    · have h1:token_printedText_L0 F s F [40] 0=some ([40]++s.flatMap textB):=text_L0 F s (by omega) s.length 0 F [40] (by omega) (by omega) (by simp; omega)
      have h2:ref3_Spelled_L3 F ⟨3,0,s,p,q⟩ F [] 0=some ([]++s.flatMap textB):=spelledText_L3 F ⟨3,0,s,p,q⟩ rfl (by show s.length≤_; omega) s.length 0 F [] (by simp) (by omega) (by simp; omega)
      have hb:=flat_len textB_len s
      rw [List.nil_append] at h2
      generalize s.flatMap textB=r at *
      refine ⟨(40 :: (r++[41]),0),?_,?_,shp3 r (by omega)⟩
      · simp [token_Print,token_check,token_printedText,strings_Builder_WriteByte,call_some,callE_go,lett_eq,hl,chk_pos,h1]
        rw [chk_pos (by omega),call_some,chk_pos (by simp; omega),call_some]
      · simp [ref3_Spelled,call_some,callE_go,lett_eq,hl,h2]
        rw [chk_pos (by omega),chk_pos (by omega)]
  · exact ⟨([],4),by simp [token_Print,token_check,call_some,callE_esc',lett_eq,nz hv],by simp [ref3_Spelled,call_some,lett_eq,nz hv],shpE (by decide)⟩
theorem both5 {F:Nat} (hF:4294967300≤F) (v:Int) (s:List UInt8) (p q:Int) (hs:s.length≤maxLen) (hF2:s.length < F):∃ x,token_Print F ⟨5,v,s,p,q⟩=some x∧ref3_Spelled F ⟨5,v,s,p,q⟩=some x∧Shp 5 x:=by
  by_cases hv:v=0
  · subst hv
    have hw:=word_eq hs hF2
    have he:=wordError_eq hs hF2
    cases s with
    | nil=>exact ⟨([],4),by simp [token_Print,token_check,token_bad,call_some,callE_esc',lett_eq,hw,wordy],by simp [ref3_Spelled,call_some,callE_go,lett_eq,chk],shpE (by decide)⟩
    | cons c t =>
      cases hd:dg c.toNat
      · cases ha:(c :: t).all okb
        · have hwy:wordy (c :: t)=false:=by simp only [wordy,ha,Bool.and_false]
          rw [hwy] at hw; rw [ha] at he
          refine ⟨([],4),by simp [token_Print,token_check,token_bad,call_some,callE_esc',lett_eq,hw],?_,shpE (by decide)⟩
          simp [ref3_Spelled,call_some,callE_go,lett_eq,chk,rdigit,hd,he]
        · have hwy:wordy (c :: t)=true:=by simp only [wordy,ha,hd,List.getD_cons_zero]; rfl
          rw [hwy,if_pos rfl] at hw; rw [ha,if_pos rfl] at he
          by_cases hl:(c :: t).length > 31
          · rw [if_pos hl] at hw he
            exact ⟨([],2),by simp [token_Print,token_check,token_bad,call_some,callE_esc',lett_eq,hw],by simp [ref3_Spelled,call_some,callE_go,lett_eq,chk,rdigit,hd,he],shpE (by decide)⟩
          · rw [if_neg hl] at hw he
            exact ⟨(c :: t,0),by simp [token_Print,token_check,token_bad,call_some,callE_go,lett_eq,hw],by simp [ref3_Spelled,call_some,callE_go,lett_eq,chk,rdigit,hd,he],shp5 (by simp) ha (by omega)⟩
      · have hwy:wordy (c :: t)=false:=by simp only [wordy,hd,List.getD_cons_zero]; simp
        rw [hwy] at hw
        exact ⟨([],4),by simp [token_Print,token_check,token_bad,call_some,callE_esc',lett_eq,hw],by simp [ref3_Spelled,call_some,callE_go,lett_eq,chk,rdigit,hd],shpE (by decide)⟩
  · exact ⟨([],4),by simp [token_Print,token_check,call_some,callE_esc',lett_eq,nz hv],by simp [ref3_Spelled,call_some,lett_eq,nz hv],shpE (by decide)⟩
theorem bothMark {F:Nat} (k:Int) (hk:k=6∨k=7∨k=8∨k=9) (v:Int) (s:List UInt8) (p q:Int):∃ x,token_Print F ⟨k,v,s,p,q⟩=some x∧ref3_Spelled F ⟨k,v,s,p,q⟩=some x∧Shp k x:=by
  by_cases hv:v=0
  · subst hv
    by_cases hn:s=[]
    · subst hn
      rcases hk with rfl | rfl | rfl | rfl
      · exact ⟨([91],0),by simp [token_Print,token_check,call_some,callE_go,lett_eq,chk,wrap_id],by simp [ref3_Spelled,call_some,callE_go,lett_eq],shpM.1⟩
      · exact ⟨([93],0),by simp [token_Print,token_check,call_some,callE_go,lett_eq,chk,wrap_id],by simp [ref3_Spelled,call_some,callE_go,lett_eq],shpM.2.1⟩
      · exact ⟨([60,60],0),by simp [token_Print,token_check,call_some,callE_go,lett_eq,chk,wrap_id],by simp [ref3_Spelled,call_some,callE_go,lett_eq],shpM.2.2.1⟩
      · exact ⟨([62,62],0),by simp [token_Print,token_check,call_some,callE_go,lett_eq,chk,wrap_id],by simp [ref3_Spelled,call_some,callE_go,lett_eq],shpM.2.2.2⟩
    · refine ⟨([],4),?_,?_,shpE (by decide)⟩ <;> rcases hk with rfl | rfl | rfl | rfl <;> simp [token_Print,token_check,ref3_Spelled,call_some,callE_esc',lett_eq,isE hn]
  · refine ⟨([],4),?_,?_,shpE (by decide)⟩ <;> rcases hk with rfl | rfl | rfl | rfl <;> simp [token_Print,token_check,ref3_Spelled,call_some,callE_esc',lett_eq,nz hv]
theorem bothNone {F:Nat} (k:Int) (hk:k < 1∨9 < k) (v:Int) (s:List UInt8) (p q:Int):∃ x,token_Print F ⟨k,v,s,p,q⟩=some x∧ref3_Spelled F ⟨k,v,s,p,q⟩=some x∧Shp k x:=by
  refine ⟨([],14),?_,?_,shpE (by decide)⟩ <;> rcases hk with h | h <;> simp [token_Print,token_check,ref3_Spelled,call_some,callE_esc',lett_eq,h]
theorem both {F:Nat} (hF:4294967300≤F) (a:S_Token) (hs:a.f2.length≤maxLen) (hF2:a.f2.length < F):∃ x,token_Print F a=some x∧ref3_Spelled F a=some x∧Shp a.f0 x:=by
  obtain ⟨k,v,s,p,q⟩:=a
  by_cases h:k < 1∨9 < k
  · exact bothNone k h v s p q
  · have:k=1∨k=2∨k=3∨k=4∨k=5∨k=6∨k=7∨k=8∨k=9:=by omega
    rcases this with rfl | rfl | rfl | rfl | rfl | h
    · exact both1 hF v s p q
    · exact both2 hF v s p q hs hF2
    · exact both3 hF v s p q
    · exact both4 hF v s p q
    · exact both5 hF v s p q hs hF2
    · exact bothMark k h v s p q
end Go.Vm.ObjG
