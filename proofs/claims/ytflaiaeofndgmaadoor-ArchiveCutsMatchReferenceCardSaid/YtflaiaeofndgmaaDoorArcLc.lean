/-
  archive.cut and R.Window: the same place.
-/
import Derived.Test.YtflaiaeofndgmaaDoorArcLb
namespace Go.Vm.ArcG
/-- The length of the first piece. -/
def cv (s:List UInt8):Int:=if s.length=0 then 0 else (pk s (s.length - 1) 1:Int)
theorem cut_law (s:List UInt8) (hs:s.length≤16384) (F:Nat) (hF:20000≤F):archive_cut F s=some (cv s):=by
  obtain ⟨k,rfl⟩:∃ k,F=k+17:=⟨F - 17,by omega⟩
  rw [archive_cut,drop_eq]
  obtain ⟨o,ho,hov⟩:=cut_L2 s (k+17) hs s.length 0 (k+17) 0 (by omega) (by omega) (by omega) (by rfl)
  show callE (archive_cut_L2 (k+17) s 1353309697 (k+17) 0 ((0:Nat):Int)) _ _=_
  rw [ho]
  have:outv s o=cv s:=by rw [hov,cv]; split <;> simp_all
  cases o with
  | esc e=>show some e=_; rw [← this]; rfl
  | go u=>show some (s.length:Int)=_; rw [← this]; rfl
theorem pw_mod (A b p:Int):(A % 4294967296+(b * (p % 4294967296)) % 4294967296) % 4294967296=(A+b * p) % 4294967296:=by
  rw [Int.mul_emod,Int.emod_emod,← Int.mul_emod,← Int.add_emod]
theorem win_L2 (s:List UInt8) (F v:Nat) (hv:16≤v∧v≤s.length) (hs:s.length≤16384):∀ (k i n:Nat),i+k=16→k < n →
    ref3_Window_L2 F s (v:Int) n (sw s v i % 4294967296) (31 ^ i % 4294967296) (i:Int)=some (sw s v 16 % 4294967296):=by
  intro k
  induction k with
  | zero =>
    intro i n hi hn
    obtain ⟨n,rfl⟩:∃ m,n=m+1:=⟨n - 1,by omega⟩
    have hi':i=16:=by omega
    subst hi'
    rfl
  | succ k ih =>
    intro i n hi hn
    obtain ⟨n,rfl⟩:∃ m,n=m+1:=⟨n - 1,by omega⟩
    have e1:IntKind.i64.wrap (IntKind.i64.wrap ((v:Int) - 1) - (i:Int))=((v - 1 - i:Nat):Int):=by
      rw [wrap_id (x:=(v:Int) - 1) ⟨by omega,by omega⟩,wrap_id ⟨by omega,by omega⟩]
      omega
    have hb:((s.getD (v - 1 - i) 0).toNat:Int)=bt s (v - 1 - i) - 1:=by
      unfold bt
      omega
    have hbt:=bt_lt s (v - 1 - i)
    rw [ref3_Window_L2,decide_eq_true (show (i:Int) < 16 by omega),cond_true,e1,chk_pos ⟨by omega,by omega⟩]
    simp only [lett]
    rw [Int.toNat_natCast,hb,wrap_succ (by omega)]
    simp only [wrapU]
    have e2:((bt s (v - 1 - i) - 1) % 4294967296+1) % 4294967296=bt s (v - 1 - i):=by omega
    have e3:(31 ^ i % 4294967296 * 31) % 4294967296=(31:Int) ^ (i+1) % 4294967296:=by
      rw [Int.pow_succ,Int.mul_emod,Int.emod_emod,← Int.mul_emod]
    rw [e2,e3,pw_mod]
    exact ih (i+1) n (by omega) (by omega)
theorem win_L0 (s:List UInt8) (F:Nat) (hF:20000≤F) (hs:s.length≤16384):∀ (k i n:Nat),i+k=s.length→1≤i→i≤256→k < n →
    ∃ o,ref3_Window_L0 F s n (i:Int)=some o∧(match o with | .esc e=>e | .go _=>((min s.length 256:Nat):Int))=(pk s k i:Int):=by
  intro k
  induction k with
  | zero =>
    intro i n hi h1 h256 hn
    obtain ⟨n,rfl⟩:∃ m,n=m+1:=⟨n - 1,by omega⟩
    rw [ref3_Window_L0,decide_eq_false (show ¬ (i:Int) < (s.length:Int) by omega),cond_false,cond_false]
    exact ⟨_,rfl,rfl⟩
  | succ k ih =>
    intro i n hi h1 h256 hn
    obtain ⟨n,rfl⟩:∃ m,n=m+1:=⟨n - 1,by omega⟩
    rw [ref3_Window_L0,dec_lt (show i < s.length by omega),cond_true]
    by_cases h:i=256
    · rw [decide_eq_false (show ¬ (i:Int) < 256 by omega),cond_false]
      refine ⟨_,rfl,?_⟩
      rw [pk_end s (by omega)]
    · rw [decide_eq_true (show (i:Int) < 256 by omega),cond_true,wrap_succ (by omega)]
      obtain ⟨o,ho,hov⟩:=ih (i+1) n (by omega) (by omega) (by omega) (by omega)
      by_cases h32:i < 32
      · rw [decide_eq_true (show (i:Int) < 32 by omega),cond_true]
        refine ⟨o,ho,hov.trans ?_⟩
        rw [pk,if_pos ⟨by omega,by omega⟩,if_neg (by omega)]
      · rw [decide_eq_false (show ¬ (i:Int) < 32 by omega),cond_false]
        have hw:=win_L2 s F i ⟨by omega,by omega⟩ hs 16 0 F (by omega) (by omega)
        have hw':ref3_Window_L2 F s (i:Int) F 0 1 0=some (rl s i % 4294967296):=by
          rw [rl,show min i 16=16 by omega]
          exact hw
        rw [hw']
        by_cases h2:rl s i % 4294967296 < 67108864
        · refine ⟨.esc (i:Int),?_,?_⟩
          · show callE (bif decide (rl s i % 4294967296 < 67108864) then _ else _) _ _=_
            rw [decide_eq_true h2]
            rfl
          · rw [pk,if_pos ⟨by omega,by omega⟩,if_pos ⟨by omega,h2⟩]
        · refine ⟨o,?_,hov.trans ?_⟩
          · show callE (bif decide (rl s i % 4294967296 < 67108864) then _ else _) _ _=_
            rw [decide_eq_false h2]
            exact ho
          · rw [pk,if_pos ⟨by omega,by omega⟩,if_neg (fun h=>h2 h.2)]
theorem win_law (s:List UInt8) (h0:s.length≠0) (hs:s.length≤16384) (F:Nat) (hF:20000≤F):ref3_Window F s=some (cv s):=by
  obtain ⟨o,ho,hov⟩:=win_L0 s F hF hs (s.length - 1) 1 F (by omega) (by omega) (by omega) (by omega)
  rw [ref3_Window]
  show callE (ref3_Window_L0 F s F ((1:Nat):Int)) _ _=_
  rw [ho,cv,if_neg h0,← hov]
  cases o with
  | esc e=>rfl
  | go u =>
    show some (if (256:Int) < (s.length:Int) then (256:Int) else (s.length:Int))=some ((min s.length 256:Nat):Int)
    congr 1
    split <;> omega
end Go.Vm.ArcG
