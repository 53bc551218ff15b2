/-
  archive: letters and what they stand for,in both texts.
-/
import Derived.Test.YtflaiaeofndgmaaGreatDoorArLa
namespace Go.Vm.ArzG.L
def outS:List UInt8 ⊕ Int→Out (List UInt8) (List UInt8×Int)
 | .inl l=>.go l
 | .inr e=>.esc ([],e)
def fin2:List UInt8 ⊕ Int→List UInt8×Int
 | .inl l=>(l,0)
 | .inr e=>([],e)
theorem drop_cons {s r:List UInt8} {c:UInt8} {i:Nat} (h:s.drop i=c :: r):i < s.length∧s.getD i 0=c∧s.drop (i+1)=r∧s.length=i+1+r.length:=by
 have hl:i < s.length:=by
  rcases Nat.lt_or_ge i s.length with h' | h'
  ·exact h'
  ·rw [List.drop_eq_nil_of_le h'] at h; cases h
 have h2:=List.drop_eq_getElem_cons hl
 rw [h] at h2
 injection h2 with h3 h4
 refine ⟨hl,?_,h4.symm,?_⟩
 ·rw [List.getD_eq_getElem?_getD,List.getElem?_eq_getElem hl,← h3]
  rfl
 ·have:=congrArg List.length h
  simp at this
  omega
theorem nat_toNat (i:Nat):((i:Nat):Int).toNat=i:=rfl
theorem beq_nil_cons (c:UInt8) (r:List UInt8):(!((c :: r) == []))=true:=rfl
/-- The value of four bytes. -/
def b4 (g:List UInt8) (i:Nat):Nat:=(g.getD i 0).toNat
theorem b4_lt (g:List UInt8) (i:Nat):b4 g i < 256:=UInt8.toNat_lt _
theorem b4_out (g:List UInt8) (i:Nat) (h:g.length≤i):b4 g i=0:=by
 unfold b4
 rw [List.getD_eq_getElem?_getD,List.getElem?_eq_none h]
 rfl
def val4 (g:List UInt8):Nat:=((b4 g 0 * 256+b4 g 1) * 256+b4 g 2) * 256+b4 g 3
theorem val4_lt (g:List UInt8):val4 g < 4294967296:=by
 have h0:=b4_lt g 0; have h1:=b4_lt g 1; have h2:=b4_lt g 2; have h3:=b4_lt g 3
 unfold val4; omega
/-- A digit as a character. -/
def ch (d:Nat):UInt8:=UInt8.ofNat (33+d)
def digs (v:Nat):List UInt8:=[ch (v / 52200625 % 85),ch (v / 614125 % 85),ch (v / 7225 % 85),ch (v / 85 % 85),ch (v % 85)]
/-- A group of one to four bytes in characters. -/
def grp (g:List UInt8):List UInt8:=if val4 g=0∧g.length=4 then [122] else (digs (val4 g)).take (g.length+1)
theorem group_step {F n:Nat} (g:List UInt8) (v i:Nat) (hi:i < 4) (hv:v < 16777216):filter_group_L0 F g (n+1) (v:Int) (i:Int)=filter_group_L0 F g n ((v * 256+b4 g i:Nat):Int) ((i+1:Nat):Int):=by
 have hd:decide ((i:Int) < 4)=true:=decide_eq_true (by omega)
 have hb:=b4_lt g i
 have hm:IntKind.u32.wrap ((v:Int) * 2 ^ (min (8:Int).toNat IntKind.u32.bits))=((v * 256:Nat):Int):=by
  show IntKind.u32.wrap ((v:Int) * 256)=_
  rw [wrap_u32 (by omega)]
  omega
 rw [filter_group_L0,hd,cond_true,hm,wrap_succ (by omega)]
 by_cases h:i < g.length
 ·have hd1:decide ((i:Int) < (g.length:Int))=true:=decide_eq_true (by omega)
  rw [hd1,cond_true,chk_in h,nat_toNat]
  have hw:IntKind.u32.wrap (((g.getD i 0).toNat:Nat):Int)=((b4 g i:Nat):Int):=wrap_u32 ⟨by omega,by have:=b4_lt g i; unfold b4 at this; omega⟩
  have ho:IntKind.u32.wrap ((BitVec.ofInt IntKind.u32.bits ((v * 256:Nat):Int) ||| BitVec.ofInt IntKind.u32.bits ((b4 g i:Nat):Int)).toNat:Int)=((v * 256+b4 g i:Nat):Int):=by
   have h2:(BitVec.ofInt IntKind.u32.bits ((v * 256:Nat):Int) ||| BitVec.ofInt IntKind.u32.bits ((b4 g i:Nat):Int)).toNat=v * 256+b4 g i:=by
    show (BitVec.ofInt 32 ((v * 256:Nat):Int) ||| BitVec.ofInt 32 ((b4 g i:Nat):Int)).toNat=_
    rw [BitVec.ofInt_natCast,BitVec.ofInt_natCast,BitVec.toNat_or,BitVec.toNat_ofNat,BitVec.toNat_ofNat,Nat.mod_eq_of_lt (by omega),Nat.mod_eq_of_lt (by omega)]
    have:=Nat.two_pow_add_eq_or_of_lt (i:=8) (b:=b4 g i) (by omega) v
    rw [Nat.mul_comm v 256]
    exact this.symm
   rw [h2,wrap_u32 (by omega)]
  rw [hw,ho,lett_eq,call_some]
 ·have hd1:decide ((i:Int) < (g.length:Int))=false:=decide_eq_false (by omega)
  have e:v * 256+b4 g i=v * 256:=by have:=b4_out g i (by omega); omega
  rw [hd1,cond_false,call_some,e]
theorem u8_digit (v:Nat):IntKind.u8.wrap ((33:Int)+(IntKind.u8.wrap (((v:Nat):Int).tmod (85:Int))))=((33+v % 85:Nat):Int):=by
 have h:((v:Nat):Int).tmod 85=((v % 85:Nat):Int):=by rw [Int.tmod_eq_emod_of_nonneg (by omega)]; omega
 rw [h,wrap_u8 (x:=((v % 85:Nat):Int)) (by omega),wrap_u8 (by omega)]
 omega
theorem group_dstep {F n:Nat} (v:Nat) (l:List UInt8) (hl:l.length=5) (i:Nat) (hi:i < 5) (hv:v < 4294967296):filter_group_L2 F (n+1) (v:Int) l (i:Int)=filter_group_L2 F n ((v / 85:Nat):Int) (l.set i (ch (v % 85))) ((i:Int) - 1):=by
 have hd:decide ((i:Int) ≥ 0)=true:=decide_eq_true (by omega)
 have ht:((v:Nat):Int).tdiv 85=((v / 85:Nat):Int):=by rw [Int.tdiv_eq_ediv_of_nonneg (by omega)]; omega
 rw [filter_group_L2,hd,cond_true,chk_pos ⟨⟨by omega,by omega⟩,by omega⟩,u8_digit,chk_pos (by omega),ht,wrap_u32 (by omega),wrap_id (by omega)]
 rfl
theorem group_eq {F:Nat} (hF:8≤F) (g:List UInt8) (hg:g.length≤4):filter_group F g=some (grp g):=by
 obtain ⟨n,rfl⟩:∃ q,F=q+8:=⟨F - 8,by omega⟩
 unfold filter_group
 have h0:=b4_lt g 0; have h1:=b4_lt g 1; have h2:=b4_lt g 2; have h3:=b4_lt g 3
 have hl0:filter_group_L0 (n+8) g (n+8) 0 0=some ((val4 g:Nat):Int):=by
  rw [show (0:Int)=((0:Nat):Int) from rfl,group_step g 0 0 (by decide) (by decide),group_step g _ 1 (by decide) (by omega),group_step g _ 2 (by decide) (by omega),group_step g _ 3 (by decide) (by omega)]
  rw [filter_group_L0]
  unfold val4
  simp
 rw [hl0,call_some]
 have hv:=val4_lt g
 have hlen:((g.length:Int) == 4)=decide (g.length=4):=by
  rw [Bool.eq_iff_iff,beq_iff_eq,decide_eq_true_eq]
  omega
 have hv0:(((val4 g:Nat):Int) == 0)=decide (val4 g=0):=by
  rw [Bool.eq_iff_iff,beq_iff_eq,decide_eq_true_eq]
  omega
 rw [hlen,hv0]
 unfold grp
 by_cases hz:val4 g=0∧g.length=4
 ·rw [if_pos hz,decide_eq_true hz.1,decide_eq_true hz.2]
  rfl
 ·have:(bif decide (val4 g=0) then decide (g.length=4) else false)=false:=by
   by_cases h:val4 g=0
   ·have:¬ g.length=4:=fun h'=>hz ⟨h,h'⟩
    simp [this]
   ·simp [h]
  rw [this,cond_false,if_neg hz]
  have hd:filter_group_L2 (n+8) (n+8) ((val4 g:Nat):Int) (List.replicate 5 0) 4=some (digs (val4 g)):=by
   rw [show (4:Int)=((4:Nat):Int) from rfl,group_dstep _ _ (by simp) 4 (by decide) hv]
   rw [show (((4:Nat):Int) - 1)=((3:Nat):Int) from rfl,group_dstep _ _ (by simp) 3 (by decide) (by omega)]
   rw [show (((3:Nat):Int) - 1)=((2:Nat):Int) from rfl,group_dstep _ _ (by simp) 2 (by decide) (by omega)]
   rw [show (((2:Nat):Int) - 1)=((1:Nat):Int) from rfl,group_dstep _ _ (by simp) 1 (by decide) (by omega)]
   rw [show (((1:Nat):Int) - 1)=((0:Nat):Int) from rfl,group_dstep _ _ (by simp) 0 (by decide) (by omega)]
   rw [filter_group_L2]
   simp only [Nat.div_div_eq_div_mul]
   rfl
  have hw:IntKind.i64.wrap ((g.length:Int)+1)=((g.length+1:Nat):Int):=wrap_succ (by omega)
  rw [hd,call_some,hw,chk_pos ⟨⟨by decide,by omega,by omega⟩,rfl⟩]
  rfl
theorem digs_len (v:Nat):(digs v).length=5:=rfl
theorem grp_len (g:List UInt8) (h:g.length≤4):1≤(grp g).length∧(grp g).length≤5:=by
 unfold grp
 split
 ·exact ⟨by decide,by decide⟩
 ·rw [List.length_take,digs_len]
  omega
theorem getD_chunk {s:List UInt8} {i k:Nat} (hk:k < 4) (hl:i+k < s.length):s.getD (i+k) 0=((s.drop i).take 4).getD k 0:=by
 rw [List.getD_eq_getElem?_getD,List.getD_eq_getElem?_getD,List.getElem?_take,if_pos hk,List.getElem?_drop]
theorem let_step {F n:Nat} (s:List UInt8) (i m v k:Nat) (hs:s.length≤131072) (hm:m=((s.drop i).take 4).length) (hk:k < 4) (hv:v < 16777216) (hi:i < s.length):ref3_Lettered_L2 F s (i:Int) (m:Int) (n+1) (v:Int) (k:Int)=ref3_Lettered_L2 F s (i:Int) (m:Int) n ((v * 256+b4 ((s.drop i).take 4) k:Nat):Int) ((k+1:Nat):Int):=by
 have hd:decide ((k:Int) < 4)=true:=decide_eq_true (by omega)
 have hb:=b4_lt ((s.drop i).take 4) k
 have hml:m=min 4 (s.length - i):=by rw [hm]; simp
 have hw:IntKind.i64.wrap ((v:Int) * 256)=((v * 256:Nat):Int):=by rw [wrap_id (by omega)]; omega
 rw [ref3_Lettered_L2,hd,cond_true,hw,wrap_succ (by omega)]
 by_cases h:k < m
 ·have hd1:decide ((k:Int) < (m:Int))=true:=decide_eq_true (by omega)
  have hw1:IntKind.i64.wrap ((i:Int)+(k:Int))=((i+k:Nat):Int):=by rw [wrap_id (by omega)]; omega
  have hg:s.getD (i+k) 0=((s.drop i).take 4).getD k 0:=getD_chunk hk (by omega)
  have hw2:IntKind.i64.wrap (((((s.drop i).take 4).getD k 0).toNat:Nat):Int)=((b4 ((s.drop i).take 4) k:Nat):Int):=wrap_id ⟨by omega,by have:=b4_lt ((s.drop i).take 4) k; unfold b4 at this; omega⟩
  rw [hd1,cond_true,hw1,chk_in (by omega),nat_toNat,hg,hw2,wrap_id (by omega),lett_eq,call_some]
  rfl
 ·have hd1:decide ((k:Int) < (m:Int))=false:=decide_eq_false (by omega)
  have e:v * 256+b4 ((s.drop i).take 4) k=v * 256:=by have:=b4_out ((s.drop i).take 4) k (by omega); omega
  rw [hd1,cond_false,call_some,e]
theorem let_L2 {F:Nat} (hF:5≤F) (s:List UInt8) (i m:Nat) (hs:s.length≤131072) (hm:m=((s.drop i).take 4).length) (hi:i < s.length):ref3_Lettered_L2 F s (i:Int) (m:Int) F 0 0=some ((val4 ((s.drop i).take 4):Nat):Int):=by
 obtain ⟨n,rfl⟩:∃ q,F=q+5:=⟨F - 5,by omega⟩
 have h0:=b4_lt ((s.drop i).take 4) 0; have h1:=b4_lt ((s.drop i).take 4) 1; have h2:=b4_lt ((s.drop i).take 4) 2; have h3:=b4_lt ((s.drop i).take 4) 3
 rw [show (0:Int)=((0:Nat):Int) from rfl,let_step s i m 0 0 hs hm (by decide) (by decide) hi,let_step s i m _ 1 hs hm (by decide) (by omega) hi,let_step s i m _ 2 hs hm (by decide) (by omega) hi,let_step s i m _ 3 hs hm (by decide) (by omega) hi]
 rw [ref3_Lettered_L2]
 unfold val4
 simp
theorem dig_step {F n:Nat} (m:Nat) (l:List UInt8) (v w k:Nat) (hm:m≤4) (hk:k≤m) (hv:v < 4294967296) (hw:0 < w) (hd:v / w < 85) (hl:l.length≤1000000) (hw2:w≤52200625):ref3_Lettered_L4 F (m:Int) (n+1) l (v:Int) (w:Int) (k:Int)=ref3_Lettered_L4 F (m:Int) n (l++[ch (v / w)]) ((v % w:Nat):Int) ((w / 85:Nat):Int) ((k+1:Nat):Int):=by
 have hm1:IntKind.i64.wrap ((m:Int)+1)=((m+1:Nat):Int):=wrap_succ (by omega)
 have hdec:decide ((k:Int) < ((m+1:Nat):Int))=true:=decide_eq_true (by omega)
 have h1:((v:Nat):Int).tdiv (w:Int)=((v / w:Nat):Int):=by rw [Int.tdiv_eq_ediv_of_nonneg (by omega)]; rfl
 have h2:((v:Nat):Int).tmod (w:Int)=((v % w:Nat):Int):=by rw [Int.tmod_eq_emod_of_nonneg (by omega)]; rfl
 have h3:((w:Nat):Int).tdiv 85=((w / 85:Nat):Int):=by rw [Int.tdiv_eq_ediv_of_nonneg (by omega)]; rfl
 have hq:w / 85≤w:=Nat.div_le_self _ _
 have h4:IntKind.u8.wrap (IntKind.i64.wrap ((33:Int)+IntKind.i64.wrap ((v / w:Nat):Int)))=((33+v / w:Nat):Int):=by
  generalize v / w=q at hd
  rw [wrap_id (x:=((q:Nat):Int)) (by omega),wrap_id (by omega),wrap_u8 (by omega)]
  omega
 have h5:(0:Int)≤((33+v / w:Nat):Int)∧((33+v / w:Nat):Int) < 256:=by
  generalize v / w=q at hd
  omega
 rw [ref3_Lettered_L4,hm1,hdec,cond_true,h1,h2,h3,chk_pos (by omega),h4,chk_pos h5,chk_pos (by simp; omega),lett_eq,chk_pos (by omega),wrap_id (x:=((w / 85:Nat):Int)) (by omega),wrap_succ (by omega)]
 rfl
theorem dig_stop {F n:Nat} (m:Nat) (l:List UInt8) (v w:Int) (hm:m≤4):ref3_Lettered_L4 F (m:Int) (n+1) l v w ((m+1:Nat):Int)=some l:=by
 have hm1:IntKind.i64.wrap ((m:Int)+1)=((m+1:Nat):Int):=wrap_succ (by omega)
 rw [ref3_Lettered_L4,hm1,decide_eq_false (by omega)]
 rfl
theorem div_mod (v a b:Nat):v % (a * b) / a=v / a % b:=Nat.mod_mul_right_div_self v a b
theorem let_L4 {F:Nat} (hF:6≤F) (m:Nat) (hm1:1≤m) (hm:m≤4) (l:List UInt8) (v:Nat) (hv:v < 4294967296) (hl:l.length≤900000):ref3_Lettered_L4 F (m:Int) F l (v:Int) 52200625 0=some (l++(digs v).take (m+1)):=by
 obtain ⟨n,rfl⟩:∃ q,F=q+6:=⟨F - 6,by omega⟩
 have d0:v / 52200625=v / 52200625 % 85:=by omega
 have d1:v % 52200625 / 614125=v / 614125 % 85:=div_mod v 614125 85
 have d2:v % 52200625 % 614125 / 7225=v / 7225 % 85:=by rw [Nat.mod_mod_of_dvd v (by decide:614125 ∣ 52200625)]; exact div_mod v 7225 85
 have d3:v % 52200625 % 614125 % 7225 / 85=v / 85 % 85:=by rw [Nat.mod_mod_of_dvd v (by decide:614125 ∣ 52200625),Nat.mod_mod_of_dvd v (by decide:7225 ∣ 614125)]; exact div_mod v 85 85
 have d4:v % 52200625 % 614125 % 7225 % 85 / 1=v % 85:=by rw [Nat.mod_mod_of_dvd v (by decide:614125 ∣ 52200625),Nat.mod_mod_of_dvd v (by decide:7225 ∣ 614125),Nat.mod_mod_of_dvd v (by decide:85 ∣ 7225),Nat.div_one]
 rw [show (52200625:Int)=((52200625:Nat):Int) from rfl,show (0:Int)=((0:Nat):Int) from rfl]
 rw [dig_step m l v 52200625 0 hm (by omega) hv (by decide) (by omega) (by omega) (by decide)]
 rw [show 52200625 / 85=614125 from rfl,dig_step m _ _ 614125 1 hm (by omega) (by omega) (by decide) (by omega) (by simp; omega) (by decide),d1]
 rw [show 614125 / 85=7225 from rfl]
 rw [d0]
 unfold digs
 rcases (by omega:m=1∨m=2∨m=3∨m=4) with rfl | rfl | rfl | rfl
 ·rw [show ((1+1:Nat):Int)=((1+1:Nat):Int) from rfl,dig_stop 1 _ _ _ (by decide)]
  simp
 ·rw [dig_step 2 _ _ 7225 2 (by decide) (by decide) (by omega) (by decide) (by omega) (by simp; omega) (by decide),d2,show (7225 / 85)=85 from rfl,dig_stop 2 _ _ _ (by decide)]
  simp
 ·rw [dig_step 3 _ _ 7225 2 (by decide) (by decide) (by omega) (by decide) (by omega) (by simp; omega) (by decide),d2,show (7225 / 85)=85 from rfl,dig_step 3 _ _ 85 3 (by decide) (by decide) (by omega) (by decide) (by omega) (by simp; omega) (by decide),d3,dig_stop 3 _ _ _ (by decide)]
  simp
 ·rw [dig_step 4 _ _ 7225 2 (by decide) (by decide) (by omega) (by decide) (by omega) (by simp; omega) (by decide),d2,show (7225 / 85)=85 from rfl,dig_step 4 _ _ 85 3 (by decide) (by decide) (by omega) (by decide) (by omega) (by simp; omega) (by decide),d3,show (85 / 85)=1 from rfl,dig_step 4 _ _ 1 4 (by decide) (by decide) (by omega) (by decide) (by omega) (by simp; omega) (by decide),d4,dig_stop 4 _ _ _ (by decide)]
  simp
/-- Bytes in characters. -/
def lettered:Nat→List UInt8→List UInt8
 | 0,_=>[]
 | k+1,s=>if s=[] then [] else grp (s.take 4)++lettered k (s.drop 4)
theorem let_loop {F:Nat} (hF:6≤F) (s:List UInt8) (hs:s.length≤131072):∀ (k i n:Nat) (xs acc:List UInt8),s.drop i=xs→(xs=[]∨i+xs.length=s.length)→xs.length≤k→k < n→i≤200000→acc.length+5 * xs.length≤800000→ref3_Lettered_L0 F s n acc (i:Int)=some (acc++lettered k xs)
 | k,i,n,[],acc,hd,hl,hk,hn,hi,ha=>by
  obtain ⟨n,rfl⟩:∃ q,n=q+1:=⟨n - 1,by omega⟩
  have hle:s.length≤i:=by
   have:=congrArg List.length hd
   simp at this
   omega
  rw [ref3_Lettered_L0,decide_eq_false (by omega),cond_false]
  cases k <;> simp [lettered]
 | 0,i,n,c :: r,acc,hd,hl,hk,hn,hi,ha=>by simp at hk
 | k+1,i,n,c :: r,acc,hd,hl,hk,hn,hi,ha=>by
  obtain ⟨n,rfl⟩:∃ q,n=q+1:=⟨n - 1,by omega⟩
  obtain ⟨h1,h2,h3,h4⟩:=drop_cons hd
  have hml:((s.drop i).take 4).length=min 4 (s.length - i):=by simp
  have hw:IntKind.i64.wrap ((s.length:Int) - (i:Int))=((s.length - i:Nat):Int):=by rw [wrap_id (by omega)]; omega
  have hz:(if ((s.length - i:Nat):Int) < (4:Int) then ((s.length - i:Nat):Int) else (4:Int))=((((s.drop i).take 4).length:Nat):Int):=by
   rw [hml]
   split <;> omega
  have hv:=val4_lt ((s.drop i).take 4)
  have hcl:(c :: r).length=r.length+1:=rfl
  have hgl:=grp_len ((s.drop i).take 4) (by omega)
  rw [ref3_Lettered_L0,dec_lt h1,cond_true,hw,hz,lett_eq,let_L2 (by omega) s i _ hs rfl h1,call_some]
  have hv0:(((val4 ((s.drop i).take 4):Nat):Int) == 0)=decide (val4 ((s.drop i).take 4)=0):=by
   rw [Bool.eq_iff_iff,beq_iff_eq,decide_eq_true_eq]
   omega
  have hm4:(((((s.drop i).take 4).length:Nat):Int) == 4)=decide (((s.drop i).take 4).length=4):=by
   rw [Bool.eq_iff_iff,beq_iff_eq,decide_eq_true_eq]
   omega
  have hgrp:(bif (bif (((val4 ((s.drop i).take 4):Nat):Int) == (0:Int)) then (((((s.drop i).take 4).length:Nat):Int) == (4:Int)) else false) then
     chk (acc.length+([(UInt8.ofNat (122:Int).toNat)]).length≤4294967296) <|
     some (acc++([(UInt8.ofNat (122:Int).toNat)]))
    else
     call (ref3_Lettered_L4 F ((((s.drop i).take 4).length:Nat):Int) F acc ((val4 ((s.drop i).take 4):Nat):Int) (52200625:Int) (0:Int))
      fun v11 =>
     some v11)=some (acc++grp ((s.drop i).take 4)):=by
   rw [hv0,hm4]
   unfold grp
   by_cases hz:val4 ((s.drop i).take 4)=0∧((s.drop i).take 4).length=4
   ·rw [if_pos hz,decide_eq_true hz.1,decide_eq_true hz.2]
    simp only [cond_true]
    rw [chk_pos (by simp; omega)]
    rfl
   ·have:(bif decide (val4 ((s.drop i).take 4)=0) then decide (((s.drop i).take 4).length=4) else false)=false:=by
     by_cases h:val4 ((s.drop i).take 4)=0
     ·have:¬ ((s.drop i).take 4).length=4:=fun h'=>hz ⟨h,h'⟩
      rw [decide_eq_false this]
      cases decide (val4 ((s.drop i).take 4)=0) <;> rfl
     ·rw [decide_eq_false h]
      rfl
    rw [this,cond_false,if_neg hz,let_L4 (by omega) _ (by omega) (by omega) acc _ hv (by omega),call_some]
  rw [hgrp,call_some]
  have hw4:IntKind.i64.wrap ((i:Int)+4)=((i+4:Nat):Int):=by rw [wrap_id (by omega)]; omega
  have hd4:s.drop (i+4)=(c :: r).drop 4:=by rw [← hd,List.drop_drop]
  have hl4:((c :: r).drop 4).length=r.length+1 - 4:=by simp
  rw [hw4,let_loop (F:=F) hF s hs k (i+4) n ((c :: r).drop 4) _ hd4 ?_ (by omega) (by omega) (by omega) ?_]
  ·rw [lettered,if_neg (by simp),hd,List.append_assoc]
  ·by_cases h5:4≤r.length+1
   ·right
    rcases hl with h | h
    ·cases h
    ·omega
   ·left
    exact List.eq_nil_of_length_eq_zero (by omega)
  ·rw [List.length_append]
   omega
theorem Lettered_eq {F:Nat} (s:List UInt8) (hs:s.length≤131072) (hF:s.length+6≤F):ref3_Lettered F s=some (lettered s.length s):=by
 unfold ref3_Lettered
 rw [show (0:Int)=((0:Nat):Int) from rfl,let_loop (by omega) s hs s.length 0 F s [] rfl (.inr (by simp)) (Nat.le_refl _) (by omega) (by omega) (by simp; omega),call_some]
 rfl
theorem lettered_small (g:List UInt8) (h0:1≤g.length) (h:g.length≤4):lettered g.length g=grp g:=by
 obtain ⟨k,hk⟩:∃ k,g.length=k+1:=⟨g.length - 1,by omega⟩
 rw [hk,lettered,if_neg (by intro h; subst h; simp at h0),List.take_of_length_le h,List.drop_eq_nil_of_le h]
 cases k <;> simp [lettered]
/-- The value of five characters,if all are. -/
def uv (g:List UInt8):Nat→Nat→Nat→Option Nat
 | 0,_,v=>some v
 | m+1,k,v=>if k < g.length then if (g.getD k 0).toNat < 33∨117 < (g.getD k 0).toNat then none else uv g m (k+1) (v * 85+((g.getD k 0).toNat - 33)) else uv g m (k+1) (v * 85+84)
theorem uv_lt (g:List UInt8):∀ (m k v w:Nat),uv g m k v=some w→w < (v+1) * 85 ^ m
 | 0,k,v,w,h=>by
  simp only [uv,Option.some.injEq] at h
  omega
 | m+1,k,v,w,h=>by
  have step:∀ x:Nat,x < 85→uv g m (k+1) (v * 85+x)=some w→w < (v+1) * 85 ^ (m+1):=by
   intro x hx h
   have:=uv_lt g m (k+1) _ w h
   have h2:(v * 85+x+1) * 85 ^ m≤((v+1) * 85) * 85 ^ m:=Nat.mul_le_mul_right _ (by omega)
   rw [Nat.pow_succ,Nat.mul_comm (85 ^ m) 85,← Nat.mul_assoc]
   omega
  rw [uv] at h
  split at h
  ·split at h
   ·cases h
   ·exact step _ (by omega) h
  ·exact step 84 (by omega) h
def outV:Option Nat→Out Int (List UInt8×Int)
 | some v=>.go (v:Int)
 | none=>.esc ([],5)
theorem wrap_u64 {x:Int} (h:0≤x∧x < 18446744073709551616):IntKind.u64.wrap x=x:=by
 unfold IntKind.wrap
 simp [IntKind.bits,IntKind.signed]
 omega
theorem ung_L0 {F:Nat} (g:List UInt8) (hg:g.length≤5):∀ (m k n v:Nat),m+k=5→m < n→v < 85 ^ k→filter_ungroup_L0 F g n (v:Int) (k:Int)=some (outV (uv g m k v))
 | 0,k,n,v,hm,hn,hv=>by
  obtain ⟨n,rfl⟩:∃ q,n=q+1:=⟨n - 1,by omega⟩
  rw [filter_ungroup_L0,decide_eq_false (by omega),cond_false]
  rfl
 | m+1,k,n,v,hm,hn,hv=>by
  obtain ⟨n,rfl⟩:∃ q,n=q+1:=⟨n - 1,by omega⟩
  have hk4:85 ^ k≤85 ^ 4:=Nat.pow_le_pow_right (by decide) (by omega)
  have hv4:v < 52200625:=Nat.lt_of_lt_of_le hv hk4
  have next:∀ d:Nat,d < 85→filter_ungroup_L0 F g n (IntKind.u64.wrap (IntKind.u64.wrap ((v:Int) * 85)+(d:Int))) (IntKind.i64.wrap ((k:Int)+1))=some (outV (uv g m (k+1) (v * 85+d))):=by
   intro d hd
   have e:IntKind.u64.wrap (IntKind.u64.wrap ((v:Int) * 85)+(d:Int))=((v * 85+d:Nat):Int):=by
    rw [wrap_u64 (x:=(v:Int) * 85) (by omega),wrap_u64 (by omega)]
    omega
   rw [e,wrap_succ (by omega)]
   exact ung_L0 g hg m (k+1) n _ (by omega) (by omega) (by rw [Nat.pow_succ]; omega)
  rw [filter_ungroup_L0,decide_eq_true (by omega),cond_true,uv]
  by_cases h:k < g.length
  ·rw [if_pos h,decide_eq_true (by omega),cond_true,chk_in h,nat_toNat]
   have hx:=UInt8.toNat_lt (g.getD k 0)
   generalize (g.getD k 0).toNat=x at hx
   by_cases hbad:x < 33∨117 < x
   ·have e:(bif decide (((x:Nat):Int) < 33) then true else decide (((x:Nat):Int) > 117))=true:=by
     rcases hbad with h | h
     ·rw [decide_eq_true (by omega)]; rfl
     ·rw [decide_eq_true (p:=((x:Nat):Int) > 117) (by omega)]; cases decide (((x:Nat):Int) < 33) <;> rfl
    rw [chk_pos (fun _=>⟨by omega,by omega⟩),lett_eq,e,if_pos hbad]
    rfl
   ·have e:(bif decide (((x:Nat):Int) < 33) then true else decide (((x:Nat):Int) > 117))=false:=by
     rw [decide_eq_false (by omega),decide_eq_false (by omega)]; rfl
    have hw:IntKind.u64.wrap (IntKind.u8.wrap (((x:Nat):Int) - 33))=((x - 33:Nat):Int):=by
     rw [wrap_u8 (by omega),wrap_u64 (by omega)]
     omega
    rw [chk_pos (fun _=>⟨by omega,by omega⟩),lett_eq,e,if_neg hbad,cond_false,chk_in h,hw]
    simp only [callE_go]
    exact next _ (by omega)
  ·rw [if_neg h,decide_eq_false (by omega),cond_false]
   simp only [callE_go]
   exact next 84 (by decide)
/-- The bytes of a value. -/
def bytes4 (v:Nat):List UInt8:=[UInt8.ofNat (v / 16777216),UInt8.ofNat (v / 65536),UInt8.ofNat (v / 256),UInt8.ofNat v]
/-- Two to five characters: the bytes,or an error. -/
def ungS (g:List UInt8):List UInt8 ⊕ Int :=
 match uv g 5 0 0 with
 | none=>.inr 5
 | some v=>if g.length=1 then .inr 12 else if 4294967296≤v then .inr 3 else if grp ((bytes4 v).take (g.length - 1))=g then .inl ((bytes4 v).take (g.length - 1)) else .inr 4
theorem u8_wrap_ofNat (v:Nat):UInt8.ofNat (IntKind.u8.wrap ((v:Nat):Int)).toNat=UInt8.ofNat v∧0≤IntKind.u8.wrap ((v:Nat):Int)∧IntKind.u8.wrap ((v:Nat):Int) < 256:=by
 have h:IntKind.u8.wrap ((v:Nat):Int)=((v % 256:Nat):Int):=by
  unfold IntKind.wrap
  simp [IntKind.bits,IntKind.signed]
 rw [h]
 refine ⟨?_,by omega,by omega⟩
 rw [nat_toNat]
 apply UInt8.toNat_inj.1
 simp
theorem shr_nat (v k:Nat) (hk:k≤64):((v:Nat):Int).fdiv (2 ^ (min ((k:Nat):Int).toNat IntKind.u64.bits))=((v / 2 ^ k:Nat):Int):=by
 have h1:min ((k:Nat):Int).toNat IntKind.u64.bits=k:=by
  show min k 64=k
  omega
 rw [h1,Int.fdiv_eq_ediv_of_nonneg _ (Int.le_of_lt (Int.pow_pos (by decide)))]
 simp
theorem beq_dec (a b:List UInt8):(!(a == b))=decide (¬ a=b):=by
 rw [Bool.eq_iff_iff,Bool.not_eq_true',beq_eq_false_iff_ne,decide_eq_true_eq]
theorem ungroup_eq {F:Nat} (hF:8≤F) (g:List UInt8) (h1:1≤g.length) (hg:g.length≤5):filter_ungroup F g=some (fin2 (ungS g)):=by
 unfold filter_ungroup ungS
 have hL:filter_ungroup_L0 F g F 0 0=some (outV (uv g 5 0 0)):=ung_L0 g hg 5 0 F 0 (by omega) (by omega) (by decide)
 rw [hL]
 have hlt:=uv_lt g 5 0 0
 cases hu:uv g 5 0 0 with
 | none=>rfl
 | some v =>
  have hv:=hlt v hu
  simp only [outV,callE_go]
  by_cases hl1:g.length=1
  ·rw [if_pos hl1]
   have:((g.length:Int) == 1)=true:=by rw [hl1]; rfl
   rw [this]
   rfl
  ·have:((g.length:Int) == 1)=false:=by rw [beq_eq_false_iff_ne]; omega
   rw [if_neg hl1,this,cond_false]
   rw [show (32:Int).toNat=((32:Nat):Int).toNat from rfl,show (24:Int).toNat=((24:Nat):Int).toNat from rfl,show (16:Int).toNat=((16:Nat):Int).toNat from rfl,show (8:Int).toNat=((8:Nat):Int).toNat from rfl]
   rw [shr_nat v 32 (by decide),shr_nat v 24 (by decide),shr_nat v 16 (by decide),shr_nat v 8 (by decide)]
   by_cases hbig:4294967296≤v
   ·have:(((v / 2 ^ 32:Nat):Int) != (0:Int))=true:=by rw [bne_iff_ne]; omega
    rw [if_pos hbig,this]
    rfl
   ·have:(((v / 2 ^ 32:Nat):Int) != (0:Int))=false:=by
     rw [Bool.eq_false_iff]
     intro h
     rw [bne_iff_ne] at h
     omega
    have hw:IntKind.i64.wrap ((g.length:Int) - 1)=((g.length - 1:Nat):Int):=wrap_pred (by omega) (by omega)
    rw [if_neg hbig,this,cond_false,chk_pos (u8_wrap_ofNat _).2,chk_pos (u8_wrap_ofNat _).2,chk_pos (u8_wrap_ofNat _).2,chk_pos (u8_wrap_ofNat _).2,hw,chk_pos ⟨by omega,by simp; omega⟩,lett_eq]
    rw [(u8_wrap_ofNat _).1,(u8_wrap_ofNat _).1,(u8_wrap_ofNat _).1,(u8_wrap_ofNat _).1,nat_toNat]
    have hb:[UInt8.ofNat (v / 2 ^ 24),UInt8.ofNat (v / 2 ^ 16),UInt8.ofNat (v / 2 ^ 8),UInt8.ofNat v]=bytes4 v:=rfl
    rw [hb,group_eq hF _ (by simp [bytes4]; omega),call_some,beq_dec]
    by_cases hgg:grp ((bytes4 v).take (g.length - 1))=g
    ·rw [if_pos hgg,decide_eq_false (not_not_intro hgg)]
     rfl
    ·rw [if_neg hgg,decide_eq_true hgg]
     rfl
def txt:Nat→List UInt8→List UInt8→List UInt8 ⊕ Int
 | _,[],acc=>.inl acc
 | 0,_ :: _,_=>.inr 99
 | k+1,c :: r,acc=>if c.toNat=122 then (if 65536 < (acc++[0,0,0,0]).length then .inr 2 else txt k r (acc++[0,0,0,0]))
  else match ungS ((c :: r).take 5) with
   | .inr e=>.inr e
   | .inl b=>if 65536 < (acc++b).length then .inr 2 else txt k ((c :: r).drop 5) (acc++b)
theorem ungS_ok {g b:List UInt8} (h:ungS g=.inl b):b.length≤4:=by
 unfold ungS at h
 split at h
 ·cases h
 split at h
 ·cases h
 split at h
 ·cases h
 split at h
 ·simp only [Sum.inl.injEq] at h
  subst h
  simp [bytes4]
  omega
 ·cases h
theorem ungS_err {g:List UInt8} {e:Int} (h:ungS g=.inr e):(e != 0)=true:=by
 unfold ungS at h
 split at h
 ·cases h; rfl
 split at h
 ·cases h; rfl
 split at h
 ·cases h; rfl
 split at h
 ·cases h
 ·cases h; rfl
theorem text_loop {F:Nat} (hF:8≤F):∀ (k:Nat) (xs acc:List UInt8) (n:Nat),xs.length≤131072→xs.length≤k→k < n→acc.length≤65536→filter_text_decode_L0 F n xs acc=some (outS (txt k xs acc))
 | k,[],acc,n,hl,hk,hn,ha=>by
  obtain ⟨n,rfl⟩:∃ q,n=q+1:=⟨n - 1,by omega⟩
  rw [filter_text_decode_L0]
  cases k <;> rfl
 | 0,c :: r,acc,n,hl,hk,hn,ha=>by simp at hk
 | k+1,c :: r,acc,n,hl,hk,hn,ha=>by
  obtain ⟨n,rfl⟩:∃ q,n=q+1:=⟨n - 1,by omega⟩
  have hcl:(c :: r).length=r.length+1:=rfl
  have hkr:r.length≤k:=by simpa using hk
  have big:∀ (l r':List UInt8),l.length≤66000→r'.length≤k→r'.length≤131072→(call (strings_Builder_Len F l) fun y4 =>
    bif (decide (y4.1 > (65536:Int))) then some (.esc ([],(2:Int))) else filter_text_decode_L0 F n r' y4.2)=some (outS (if 65536 < l.length then .inr 2 else txt k r' l)):=by
   intro l r' h5 h6 h7
   simp only [strings_Builder_Len,call_some]
   by_cases hbig:65536 < l.length
   ·rw [decide_eq_true (by omega),if_pos hbig]
    rfl
   ·rw [decide_eq_false (by omega),if_neg hbig,cond_false]
    exact text_loop hF k r' l n h7 h6 (by omega) (by omega)
  have h0:((c :: r).getD (0:Int).toNat 0)=c:=rfl
  rw [filter_text_decode_L0,beq_nil_cons,cond_true,chk_pos ⟨by decide,by omega⟩,h0,txt]
  by_cases hz:c.toNat=122
  ·have:(((c.toNat:Nat):Int) == 122)=true:=by rw [beq_iff_eq]; omega
   rw [this,cond_true,if_pos hz]
   unfold strings_Builder_WriteString
   rw [chk_pos (by simp; omega),call_some,chk_pos ⟨by decide,by omega,by omega⟩]
   simp only [callE_go]
   have ht:((c :: r).drop (1:Int).toNat).take (((c :: r).length:Int).toNat - (1:Int).toNat)=r:=by
    show r.take (r.length+1 - 1)=r
    simp
   rw [ht]
   exact big _ _ (by simp; omega) hkr (by omega)
  ·have:(((c.toNat:Nat):Int) == 122)=false:=by rw [beq_eq_false_iff_ne]; omega
   rw [this,cond_false,if_neg hz]
   have hm:(if (5:Int) < ((c :: r).length:Int) then (5:Int) else ((c :: r).length:Int))=((min 5 (c :: r).length:Nat):Int):=by
    split <;> omega
   rw [hm,chk_pos ⟨by decide,by omega,by omega⟩]
   have ht:((c :: r).drop (0:Int).toNat).take (((min 5 (c :: r).length:Nat):Int).toNat - (0:Int).toNat)=(c :: r).take 5:=by
    show (c :: r).take (min 5 (c :: r).length)=_
    rw [← List.take_take]
    simp
   have ht2:((c :: r).drop (((min 5 (c :: r).length:Nat):Int)).toNat).take (((c :: r).length:Int).toNat - (((min 5 (c :: r).length:Nat):Int)).toNat)=(c :: r).drop 5:=by
    rw [nat_toNat,nat_toNat,List.take_of_length_le (by simp)]
    rcases Nat.le_total 5 (c :: r).length with h | h
    ·rw [Nat.min_eq_left h]
    ·rw [Nat.min_eq_right h,List.drop_eq_nil_of_le (Nat.le_refl _),List.drop_eq_nil_of_le h]
   simp only [ht,ht2,lett_eq]
   have hgl:((c :: r).take 5).length=min 5 (r.length+1):=by rw [List.length_take,hcl]
   rw [ungroup_eq hF _ (by omega) (by omega),call_some]
   cases hu:ungS ((c :: r).take 5) with
   | inr e =>
    simp only [fin2]
    rw [ungS_err hu]
    rfl
   | inl b =>
    have hb:=ungS_ok hu
    simp only [fin2,bne_self_eq_false,cond_false]
    unfold strings_Builder_WriteString
    rw [chk_pos (by omega),call_some,chk_pos ⟨by omega,by omega,by omega⟩]
    simp only [callE_go]
    exact big _ _ (by simp; omega) (by simp; omega) (by simp; omega)
theorem unl_L2 {F:Nat} (s:List UInt8) (i:Nat) (z1:Int) (g:List UInt8) (hgs:(s.drop ((i:Nat):Int).toNat).take (z1.toNat - ((i:Nat):Int).toNat)=g) (hg:g.length≤5):∀ (m k n v:Nat),m+k=5→m < n→v < 85 ^ k→ref3_unletter_L2 F s (i:Int) z1 n (v:Int) (k:Int)=some (outV (uv g m k v))
 | 0,k,n,v,hm,hn,hv=>by
  obtain ⟨n,rfl⟩:∃ q,n=q+1:=⟨n - 1,by omega⟩
  rw [ref3_unletter_L2,decide_eq_false (by omega),cond_false]
  rfl
 | m+1,k,n,v,hm,hn,hv=>by
  obtain ⟨n,rfl⟩:∃ q,n=q+1:=⟨n - 1,by omega⟩
  have hk4:85 ^ k≤85 ^ 4:=Nat.pow_le_pow_right (by decide) (by omega)
  have hv4:v < 52200625:=Nat.lt_of_lt_of_le hv hk4
  have next:∀ d:Nat,d < 85→ref3_unletter_L2 F s (i:Int) z1 n (IntKind.i64.wrap (IntKind.i64.wrap ((v:Int) * 85)+(d:Int))) (IntKind.i64.wrap ((k:Int)+1))=some (outV (uv g m (k+1) (v * 85+d))):=by
   intro d hd
   have e:IntKind.i64.wrap (IntKind.i64.wrap ((v:Int) * 85)+(d:Int))=((v * 85+d:Nat):Int):=by
    rw [wrap_id (x:=(v:Int) * 85) (by omega),wrap_id (by omega)]
    omega
   rw [e,wrap_succ (by omega)]
   exact unl_L2 s i z1 g hgs hg m (k+1) n _ (by omega) (by omega) (by rw [Nat.pow_succ]; omega)
  rw [ref3_unletter_L2,hgs,decide_eq_true (by omega),cond_true,uv]
  by_cases h:k < g.length
  ·rw [if_pos h,decide_eq_true (by omega),cond_true,chk_in h,nat_toNat]
   have hx:=UInt8.toNat_lt (g.getD k 0)
   generalize (g.getD k 0).toNat=x at hx
   rw [wrap_id (x:=((x:Nat):Int)) (by omega),lett_eq,wrap_id (x:=((x:Nat):Int) - 33) (by omega),call_some]
   by_cases hbad:x < 33∨117 < x
   ·have e:(bif decide ((x:Int) - 33 < 0) then true else decide ((x:Int) - 33 > 84))=true:=by
     rcases hbad with h | h
     ·rw [decide_eq_true (by omega)]; rfl
     ·rw [decide_eq_true (p:=(x:Int) - 33 > 84) (by omega)]; cases decide ((x:Int) - 33 < 0) <;> rfl
    rw [e,if_pos hbad]
    rfl
   ·have e:(bif decide ((x:Int) - 33 < 0) then true else decide ((x:Int) - 33 > 84))=false:=by
     rw [decide_eq_false (by omega),decide_eq_false (by omega)]; rfl
    rw [e,if_neg hbad,cond_false,show (x:Int) - 33=((x - 33:Nat):Int) by omega]
    exact next _ (by omega)
  ·rw [if_neg h,decide_eq_false (by omega),cond_false,call_some]
   exact next 84 (by decide)
theorem unl_loop {F:Nat} (s:List UInt8) (hs:s.length≤2200000) (hF:20≤F):∀ (k:Nat) (xs acc:List UInt8) (i n:Nat),s.drop i=xs→i+xs.length=s.length→xs.length≤k→k < n→acc.length≤65536→ref3_unletter_L0 F s n acc (i:Int)=some (outS (txt k xs acc))
 | k,[],acc,i,n,hd,hl,hk,hn,ha=>by
  obtain ⟨n,rfl⟩:∃ q,n=q+1:=⟨n - 1,by omega⟩
  have:i=s.length:=by simpa using hl
  subst this
  rw [ref3_unletter_L0,dec_end]
  cases k <;> rfl
 | 0,c :: r,acc,i,n,hd,hl,hk,hn,ha=>by simp at hk
 | k+1,c :: r,acc,i,n,hd,hl,hk,hn,ha=>by
  obtain ⟨n,rfl⟩:∃ q,n=q+1:=⟨n - 1,by omega⟩
  obtain ⟨h1,h2,h3,h4⟩:=drop_cons hd
  have hcl:(c :: r).length=r.length+1:=rfl
  have hkr:r.length≤k:=by simpa using hk
  have e1:∀ k:Nat,s.drop (i+k)=(c :: r).drop k:=fun k=>by rw [← hd,List.drop_drop]
  have big:∀ (l:List UInt8) (j:Nat),l.length≤66000→1≤j→j≤r.length+1→(bif (decide ((l.length:Int) > (65536:Int))) then some (.esc ([],(2:Int))) else ref3_unletter_L0 F s n l ((i+j:Nat):Int))=some (outS (if 65536 < l.length then .inr 2 else txt k ((c :: r).drop j) l)):=by
   intro l j h5 h6 h7
   by_cases hbig:65536 < l.length
   ·rw [decide_eq_true (by omega),if_pos hbig]
    rfl
   ·rw [decide_eq_false (by omega),if_neg hbig,cond_false]
    exact unl_loop s hs hF k _ l (i+j) n (e1 j) (by simp; omega) (by simp; omega) (by omega) (by omega)
  rw [ref3_unletter_L0,dec_lt h1,cond_true,chk_in h1,nat_toNat,h2,txt]
  by_cases hz:c.toNat=122
  ·have:(((c.toNat:Nat):Int) == 122)=true:=by rw [beq_iff_eq]; omega
   have hl4:[(UInt8.ofNat (0:Int).toNat),(UInt8.ofNat (0:Int).toNat),(UInt8.ofNat (0:Int).toNat),(UInt8.ofNat (0:Int).toNat)]=([0,0,0,0]:List UInt8):=rfl
   rw [this,cond_true,if_pos hz,hl4,chk_pos (by simp; omega),lett_eq,wrap_succ (by omega)]
   simp only [callE_go]
   exact big _ 1 (by simp; omega) (by omega) (by omega)
  ·have:(((c.toNat:Nat):Int) == 122)=false:=by rw [beq_eq_false_iff_ne]; omega
   rw [this,cond_false,if_neg hz]
   have hw:IntKind.i64.wrap ((i:Int)+5)=((i+5:Nat):Int):=by rw [wrap_id (by omega)]; omega
   have hm:(if ((i+5:Nat):Int) < (s.length:Int) then ((i+5:Nat):Int) else (s.length:Int))=((min (i+5) s.length:Nat):Int):=by
    split <;> omega
   have ht:(s.drop i).take (min (i+5) s.length - i)=(c :: r).take 5:=by
    rw [hd]
    rcases Nat.le_total (i+5) s.length with h | h
    ·rw [Nat.min_eq_left h,Nat.add_sub_cancel_left]
    ·rw [Nat.min_eq_right h,List.take_of_length_le (by omega),List.take_of_length_le (by omega)]
   have hgl:((c :: r).take 5).length=min 5 (r.length+1):=by rw [List.length_take,hcl]
   rw [hw,hm,lett_eq,chk_pos ⟨by omega,by omega,by omega⟩]
   have hL:ref3_unletter_L2 F s (i:Int) ((min (i+5) s.length:Nat):Int) F 0 0=some (outV (uv ((c :: r).take 5) 5 0 0)):=unl_L2 s i _ _ (by rw [nat_toNat,nat_toNat]; exact ht) (by omega) 5 0 F 0 (by omega) (by omega) (by decide)
   rw [hL]
   simp only [nat_toNat,ht]
   have hlt:=uv_lt ((c :: r).take 5) 5 0 0
   unfold ungS
   cases hu:uv ((c :: r).take 5) 5 0 0 with
   | none=>rfl
   | some v =>
    have hv:=hlt v hu
    simp only [outV,callE_go]
    by_cases hl1:((c :: r).take 5).length=1
    ·have:((((c :: r).take 5).length:Int) == 1)=true:=by rw [hl1]; rfl
     rw [if_pos hl1,this]
     rfl
    ·have:((((c :: r).take 5).length:Int) == 1)=false:=by rw [beq_eq_false_iff_ne]; omega
     rw [if_neg hl1,this,cond_false]
     by_cases hbig:4294967296≤v
     ·rw [decide_eq_true (by omega),if_pos hbig]
      rfl
     ·have q1:IntKind.i64.wrap (((v:Nat):Int).tdiv 16777216)=((v / 16777216:Nat):Int):=by
       rw [Int.tdiv_eq_ediv_of_nonneg (by omega),wrap_id (by omega)]; omega
      have q2:(IntKind.i64.wrap (((v:Nat):Int).tdiv 65536)).tmod 256=((v / 65536 % 256:Nat):Int):=by
       rw [Int.tdiv_eq_ediv_of_nonneg (by omega),wrap_id (by omega),Int.tmod_eq_emod_of_nonneg (by omega)]; omega
      have q3:(IntKind.i64.wrap (((v:Nat):Int).tdiv 256)).tmod 256=((v / 256 % 256:Nat):Int):=by
       rw [Int.tdiv_eq_ediv_of_nonneg (by omega),wrap_id (by omega),Int.tmod_eq_emod_of_nonneg (by omega)]; omega
      have q4:(((v:Nat):Int)).tmod 256=((v % 256:Nat):Int):=by
       rw [Int.tmod_eq_emod_of_nonneg (by omega)]; omega
      have hw1:IntKind.i64.wrap ((((c :: r).take 5).length:Int) - 1)=((((c :: r).take 5).length - 1:Nat):Int):=wrap_pred (by omega) (by omega)
      have hmod:∀ x:Nat,UInt8.ofNat (x % 256)=UInt8.ofNat x:=fun x=>by apply UInt8.toNat_inj.1; simp
      rw [decide_eq_false (by omega),if_neg hbig,cond_false,q1,q2,q3,q4,chk_pos (u8_wrap_ofNat _).2,chk_pos (u8_wrap_ofNat _).2,chk_pos (u8_wrap_ofNat _).2,chk_pos (u8_wrap_ofNat _).2,hw1]
      rw [(u8_wrap_ofNat _).1,(u8_wrap_ofNat _).1,(u8_wrap_ofNat _).1,(u8_wrap_ofNat _).1,hmod,hmod,hmod]
      have hb:[UInt8.ofNat (v / 16777216),UInt8.ofNat (v / 65536),UInt8.ofNat (v / 256),UInt8.ofNat v]=bytes4 v:=rfl
      have hb4:(bytes4 v).length=4:=rfl
      have hc1:(0:Int)≤0∧(0:Int)≤((((c :: r).take 5).length - 1:Nat):Int)∧((((c :: r).take 5).length - 1:Nat):Int)≤((bytes4 v).length:Int):=⟨by decide,by omega,by omega⟩
      have htk:((bytes4 v).drop (0:Int).toNat).take (((((c :: r).take 5).length - 1:Nat):Int).toNat - (0:Int).toNat)=(bytes4 v).take (((c :: r).take 5).length - 1):=rfl
      have hbl:((bytes4 v).take (((c :: r).take 5).length - 1)).length=((c :: r).take 5).length - 1:=by rw [List.length_take,hb4]; omega
      rw [hb,chk_pos hc1,lett_eq,htk,Lettered_eq _ (by omega) (by omega),lettered_small _ (by omega) (by omega),call_some,beq_dec]
      by_cases hgg:grp ((bytes4 v).take (((c :: r).take 5).length - 1))=(c :: r).take 5
      ·rw [if_pos hgg,decide_eq_false (not_not_intro hgg),cond_false,lett_eq,chk_pos hc1,lett_eq,htk,chk_pos (by omega),wrap_id (by omega)]
       simp only [callE_go]
       rw [show ((i:Int)+(((c :: r).take 5).length:Int))=((i+((c :: r).take 5).length:Nat):Int) from rfl,big _ _ (by simp; omega) (by omega) (by omega)]
       have:(c :: r).drop ((c :: r).take 5).length=(c :: r).drop 5:=by
        rw [hgl]
        rcases Nat.le_total 5 (r.length+1) with h | h
        ·rw [Nat.min_eq_left h]
        ·rw [Nat.min_eq_right h,List.drop_eq_nil_of_le (Nat.le_of_eq hcl),List.drop_eq_nil_of_le (by omega)]
       rw [this]
      ·rw [if_neg hgg,decide_eq_true hgg]
       rfl
theorem txt_len:∀ (k:Nat) (xs acc l:List UInt8),acc.length≤65536→txt k xs acc=.inl l→l.length≤65536
 | k,[],acc,l,ha,h=>by
  have:txt k [] acc=.inl acc:=by cases k <;> rfl
  rw [this] at h
  cases h
  exact ha
 | 0,c :: r,acc,l,ha,h=>by rw [txt] at h; cases h
 | k+1,c :: r,acc,l,ha,h=>by
  rw [txt] at h
  split at h
  ·split at h
   ·cases h
   ·exact txt_len k _ _ l (by omega) h
  ·split at h
   ·cases h
   ·split at h
    ·cases h
    ·exact txt_len k _ _ l (by omega) h
theorem txt_err:∀ (k:Nat) (xs acc:List UInt8) (e:Int),txt k xs acc=.inr e→(e != 0)=true
 | k,[],acc,e,h=>by
  have:txt k [] acc=.inl acc:=by cases k <;> rfl
  rw [this] at h
  cases h
 | 0,c :: r,acc,e,h=>by rw [txt] at h; cases h; rfl
 | k+1,c :: r,acc,e,h=>by
  rw [txt] at h
  split at h
  ·split at h
   ·cases h; rfl
   ·exact txt_err k _ _ e h
  ·split at h
   ·rename_i h2; cases h; exact ungS_err h2
   ·split at h
    ·cases h; rfl
    ·exact txt_err k _ _ e h
end Go.Vm.ArzG.L
