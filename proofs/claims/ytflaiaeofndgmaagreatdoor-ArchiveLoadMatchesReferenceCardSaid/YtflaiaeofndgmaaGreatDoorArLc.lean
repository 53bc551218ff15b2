/-
  archive: the lengths of the pieces.
-/
import Derived.Test.YtflaiaeofndgmaaGreatDoorArF
import Derived.Test.YtflaiaeofndgmaaGreatDoorVmC
import Derived.Test.YtflaiaeofndgmaaGreatDoorVmD
namespace Go.Vm.ArzG.L
theorem wrapU (x:Int):IntKind.u32.wrap x=x % 4294967296:=by
 simp [IntKind.wrap,IntKind.signed,IntKind.bits]
/-- The number of a byte. -/
def bt (s:List UInt8) (i:Nat):Int:=((s.getD i 0).toNat:Int)+1
theorem bt_lt (s:List UInt8) (i:Nat):1≤bt s i∧bt s i≤256:=by
 have:=(s.getD i 0).toNat_lt
 unfold bt
 omega
/-- The number of the window of k bytes before the place n. -/
def sw (s:List UInt8) (n:Nat):Nat→Int
 | 0=>0
 | k+1=>sw s n k+bt s (n - 1 - k) * 31 ^ k
theorem sw_shift (s:List UInt8) (n k:Nat):sw s (n+1) (k+1)=bt s n+31 * sw s n k:=by
 induction k with
 | zero=>simp [sw]
 | succ k ih =>
  rw [sw,ih,sw,show n+1 - 1 - (k+1)=n - 1 - k by omega,Int.pow_succ,Int.mul_add,Int.add_assoc]
  congr 2
  rw [Int.mul_comm (31 ^ k) 31,← Int.mul_assoc,← Int.mul_assoc,Int.mul_comm (bt s (n - 1 - k)) 31]
/-- What cut computes. -/
def rl (s:List UInt8) (n:Nat):Int:=sw s n (min n 16)
theorem rl_low {s:List UInt8} {n:Nat} (h:n < 16):rl s (n+1)=bt s n+31 * rl s n:=by
 unfold rl
 rw [show min (n+1) 16=n+1 by omega,show min n 16=n by omega,sw_shift]
theorem rl_high {s:List UInt8} {n:Nat} (h:16≤n):rl s (n+1)=bt s n+31 * rl s n - 727423121747185263828481 * bt s (n - 16):=by
 unfold rl
 rw [show min (n+1) 16=15+1 by omega,show min n 16=16 by omega,sw_shift]
 have h2:sw s n 16=sw s n 15+bt s (n - 1 - 15) * 31 ^ 15:=rfl
 rw [h2,show n - 1 - 15=n - 16 by omega,show (31:Int) ^ 15=23465261991844685929951 by decide]
 omega
theorem drop_eq (k n:Nat):archive_cut_L0 n (k+17) 1 0=some 1353309697:=by rfl
/-- The first place from n on where a piece ends. -/
def pk (s:List UInt8):Nat→Nat→Nat
 | 0,n=>min s.length 256
 | k+1,n=>if n < s.length∧n < 256 then (if 32≤n∧rl s n % 4294967296 < 67108864 then n else pk s k (n+1)) else min s.length 256
theorem roll {v4 h b:Int} (hv:v4=h % 4294967296) (hb:1≤b∧b≤256) :
  (((v4 * 31) % 4294967296+(b - 1) % 4294967296) % 4294967296+1) % 4294967296=(b+31 * h) % 4294967296:=by
 subst hv
 omega
theorem roll2 {v4 h b c:Int} (hv:v4=h % 4294967296) (hb:1≤b∧b≤256) (hc:1≤c∧c≤256) :
  ((((v4 * 31) % 4294967296+(b - 1) % 4294967296) % 4294967296+1) % 4294967296 - (1353309697 * (((c - 1) % 4294967296+1) % 4294967296)) % 4294967296) % 4294967296=(b+31 * h - 727423121747185263828481 * c) % 4294967296:=by
 subst hv
 omega
/-- What leaves cut's loop. -/
def outv (s:List UInt8):Out Unit Int→Int
 | .esc e=>e
 | .go _=>(s.length:Int)
theorem pk_end (s:List UInt8) {k n:Nat} (h:¬ (n < s.length∧n < 256)):pk s k n=min s.length 256:=by
 cases k with
 | zero=>rfl
 | succ k=>rw [pk,if_neg h]
theorem cut_L2 (s:List UInt8) (F:Nat) (hs:s.length≤16384):∀ (k i n:Nat) (v4:Int),i+k=s.length→k < n→i < 256→v4=rl s i % 4294967296 →
  ∃ o,archive_cut_L2 F s 1353309697 n v4 (i:Int)=some o∧outv s o=if k=0 then (s.length:Int) else (pk s (k - 1) (i+1):Int):=by
 intro k
 induction k with
 | zero =>
  intro i n v4 hi hn _ _
  obtain ⟨n,rfl⟩:∃ m,n=m+1:=⟨n - 1,by omega⟩
  rw [archive_cut_L2,decide_eq_false (by omega),cond_false]
  exact ⟨_,rfl,rfl⟩
 | succ k ih =>
  intro i n v4 hi hn h256 hv
  obtain ⟨n,rfl⟩:∃ m,n=m+1:=⟨n - 1,by omega⟩
  have hil:i < s.length:=by omega
  have tail:∀ v6,v6=rl s (i+1) % 4294967296→∃ o,(bif (bif (decide ((IntKind.i64.wrap ((i:Int)+(1:Int))) ≥ (256:Int))) then true else ((bif (decide ((IntKind.i64.wrap ((i:Int)+(1:Int))) ≥ (32:Int))) then ((v6.fdiv (2 ^ (min (26:Int).toNat IntKind.u32.bits))) == (0:Int)) else false))) then
    some (Out.esc (IntKind.i64.wrap ((i:Int)+(1:Int))))
   else
    archive_cut_L2 F s 1353309697 n v6 (IntKind.i64.wrap ((i:Int)+(1:Int))))=some o∧outv s o=(pk s k (i+1):Int):=by
   intro v6 hv6
   rw [wrap_succ (by omega)]
   have hsm:(v6.fdiv (2 ^ (min (26:Int).toNat IntKind.u32.bits)) == (0:Int))=decide (rl s (i+1) % 4294967296 < 67108864):=by
    rw [show (2 ^ (min (26:Int).toNat IntKind.u32.bits):Int)=67108864 from rfl,← hv6]
    have h0:0≤v6:=by omega
    rw [Int.fdiv_eq_ediv_of_nonneg _ (by decide)]
    rw [Bool.eq_iff_iff]
    simp only [beq_iff_eq,decide_eq_true_eq]
    omega
   rw [hsm]
   by_cases h1:i+1=256
   ·rw [decide_eq_true (show ((i+1:Nat):Int) ≥ 256 by omega),cond_true,cond_true]
    refine ⟨_,rfl,?_⟩
    rw [pk_end s (by omega)]
    simp only [outv]
    omega
   ·rw [decide_eq_false (show ¬ ((i+1:Nat):Int) ≥ 256 by omega),cond_false]
    by_cases h2:32≤i+1∧rl s (i+1) % 4294967296 < 67108864
    ·rw [decide_eq_true (show ((i+1:Nat):Int) ≥ 32 by omega),cond_true,decide_eq_true h2.2,cond_true]
     refine ⟨_,rfl,?_⟩
     cases k with
     | zero =>
      rw [pk_end s (by omega)]
      simp only [outv]
      omega
     | succ k=>rw [pk,if_pos ⟨by omega,by omega⟩,if_pos h2]; rfl
    ·have hf:(bif decide (((i+1:Nat):Int) ≥ 32) then decide (rl s (i+1) % 4294967296 < 67108864) else false)=false:=by
      by_cases h3:32≤i+1
      ·rw [decide_eq_true (show ((i+1:Nat):Int) ≥ 32 by omega),cond_true,decide_eq_false (fun h=>h2 ⟨h3,h⟩)]
      ·rw [decide_eq_false (show ¬ ((i+1:Nat):Int) ≥ 32 by omega),cond_false]
     rw [hf,cond_false]
     obtain ⟨o,ho,hov⟩:=ih (i+1) n v6 (by omega) (by omega) (by omega) hv6
     refine ⟨o,ho,hov.trans ?_⟩
     cases k with
     | zero =>
      rw [if_pos rfl,pk_end s (by omega)]
      omega
     | succ k=>rw [if_neg (by omega),pk,if_pos ⟨by omega,by omega⟩,if_neg h2]; rfl
  rw [if_neg (by omega),archive_cut_L2,dec_lt hil,cond_true,chk_pos ⟨by omega,by omega⟩]
  simp only [lett]
  have hb:((s.getD (i:Int).toNat 0).toNat:Int)=bt s i - 1:=by
   unfold bt
   rw [Int.toNat_natCast]
   omega
  have hbt:=bt_lt s i
  rcases Nat.lt_or_ge i 16 with h16 | h16
  ·rw [decide_eq_false (show ¬ ((i:Int) ≥ 16) by omega),cond_false]
   refine tail _ ?_
   rw [hb,wrapU,wrapU,wrapU,wrapU,rl_low h16]
   exact roll hv hbt
  ·have hb2:((s.getD (IntKind.i64.wrap ((i:Int) - 16)).toNat 0).toNat:Int)=bt s (i - 16) - 1:=by
    rw [wrap_id ⟨by omega,by omega⟩]
    unfold bt
    rw [show ((i:Int) - 16).toNat=i - 16 by omega]
    omega
   rw [decide_eq_true (show ((i:Int) ≥ 16) by omega),cond_true,chk_pos ⟨by rw [wrap_id ⟨by omega,by omega⟩]; omega,by rw [wrap_id ⟨by omega,by omega⟩]; omega⟩]
   refine tail _ ?_
   rw [hb,hb2]
   simp only [wrapU]
   rw [rl_high h16]
   exact roll2 hv hbt (bt_lt s (i - 16))
/-- The length of the first piece. -/
def cv (s:List UInt8):Int:=if s.length=0 then 0 else (pk s (s.length - 1) 1:Int)
theorem cut_law (s:List UInt8) (hs:s.length≤16384) (F:Nat) (hF:20000≤F):archive_cut F s=some (cv s):=by
 obtain ⟨k,rfl⟩:∃ k,F=k+17:=⟨F - 17,by omega⟩
 rw [archive_cut,drop_eq]
 obtain ⟨o,ho,hov⟩:=cut_L2 s (k+17) hs s.length 0 (k+17) 0 (by omega) (by omega) (by omega) (by rfl)
 show callE (archive_cut_L2 (k+17) s 1353309697 (k+17) 0 ((0:Nat):Int)) _ _=_
 rw [ho]
 have:outv s o=cv s:=by rw [hov,cv]; split <;> simp_all
 cases o with
 | esc e=>show some e=_; rw [← this]; rfl
 | go u=>show some (s.length:Int)=_; rw [← this]; rfl
theorem pk_le (s:List UInt8):∀ k n,pk s k n≤s.length
 | 0,_=>by rw [pk]; omega
 | k+1,n=>by
  rw [pk]
  split
  ·split
   ·omega
   ·exact pk_le s k (n+1)
  ·omega
theorem pk_pos (s:List UInt8) (h:s.length≠0):∀ k n,1≤n→1≤pk s k n
 | 0,_,_=>by rw [pk]; omega
 | k+1,n,hn=>by
  rw [pk]
  split
  ·split
   ·omega
   ·exact pk_pos s h k (n+1) (by omega)
  ·omega
theorem cv_in (s:List UInt8) (h:s.length≠0):1≤cv s∧cv s≤s.length:=by
 rw [cv,if_neg h]
 have:=pk_le s (s.length - 1) 1
 have:=pk_pos s h (s.length - 1) 1 (by omega)
 omega
end Go.Vm.ArzG.L
