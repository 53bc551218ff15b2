/-
  archive: the checksum of a line and its letters,in both texts.
-/
import Derived.Test.YtflaiaeofndgmaaGreatDoorArF
import Derived.Test.YtflaiaeofndgmaaGreatDoorVmD
namespace Go.Vm.ArzG.L
def poly:B32:=0xedb88320#32
/-- One step of the register. -/
def S1 (x:B32):B32:=(x >>> 1) ^^^ (if x.getLsbD 0 then poly else 0#32)
def itr:Nat→B32→B32
 | 0,x=>x
 | n+1,x=>itr n (S1 x)
theorem S1_xor (x y:B32):S1 (x ^^^ y)=S1 x ^^^ S1 y:=by
 unfold S1
 rw [BitVec.getLsbD_xor,BitVec.ushiftRight_xor_distrib]
 cases x.getLsbD 0 <;> cases y.getLsbD 0 <;> simp only [Bool.xor_false,Bool.xor_true,Bool.false_eq_true,if_true,if_false,Bool.not_false,Bool.not_true,BitVec.xor_zero,BitVec.zero_xor,Bool.false_xor,Bool.true_xor]
 ·rw [BitVec.xor_assoc]
 ·rw [BitVec.xor_assoc,BitVec.xor_assoc,BitVec.xor_comm (y >>> 1) poly]
 ·rw [BitVec.xor_assoc,← BitVec.xor_assoc poly (y >>> 1) poly,BitVec.xor_comm poly (y >>> 1),BitVec.xor_assoc (y >>> 1),BitVec.xor_self,BitVec.xor_zero]
theorem itr_xor:∀ (n:Nat) (x y:B32),itr n (x ^^^ y)=itr n x ^^^ itr n y
 | 0,_,_=>rfl
 | n+1,x,y=>by rw [itr,S1_xor,itr_xor n]; rfl
theorem tdiv_two (r:B32):(nI r).tdiv 2=nI (r >>> 1):=by
 unfold nI
 rw [BitVec.toNat_ushiftRight,Nat.shiftRight_eq_div_pow,Int.tdiv_eq_ediv_of_nonneg (by omega)]
 omega
theorem tmod_two (r:B32):((nI r).tmod 2 == 1)=r.getLsbD 0:=by
 unfold nI
 rw [BitVec.getLsbD,Nat.testBit_zero,Bool.eq_iff_iff,beq_iff_eq,decide_eq_true_eq,Int.tmod_eq_emod_of_nonneg (by omega)]
 omega
def bitv (b:Bool):B32:=if b then 1#32 else 0#32
theorem bitv_shr (b:Bool):bitv b >>> 1=0#32:=by cases b <;> decide
theorem bitv_lsb (b:Bool):(bitv b).getLsbD 0=b:=by cases b <;> decide
theorem Stepped_eq {F:Nat} (r:B32) (b:Bool):ref3_Stepped F (nI r) b=some (nI (S1 (r ^^^ bitv b))):=by
 have h0:IntKind.u32.wrap (IntKind.u32.wrap (nI (r >>> 1))+0)=nI (r >>> 1):=by
  rw [wrap_u32 (nI_lt _),Int.add_zero,wrap_u32 (nI_lt _)]
 have hp:(3988292384:Int)=nI poly:=by decide
 unfold ref3_Stepped
 rw [tmod_two,tdiv_two,h0,hp,nI_xor]
 simp only [lett_eq]
 unfold S1
 rw [BitVec.getLsbD_xor,BitVec.ushiftRight_xor_distrib,bitv_shr,bitv_lsb,BitVec.xor_zero]
 cases r.getLsbD 0 <;> cases b <;> simp
def bX (x:UInt8):B32:=BitVec.ofNat 32 x.toNat
theorem bX_toNat (x:UInt8):(bX x).toNat=x.toNat:=by
 have:=x.toNat_lt
 rw [bX,BitVec.toNat_ofNat,Nat.mod_eq_of_lt (by omega)]
theorem nI_bX (x:UInt8):nI (bX x)=(x.toNat:Int):=by unfold nI; rw [bX_toNat]
/-- The bit k of a byte,as the program computes it. -/
theorem bit_eq (x:UInt8) (k:Nat) (hk:k≤8):(IntKind.u8.wrap ((BitVec.ofInt IntKind.u8.bits (((x.toNat:Nat):Int).fdiv (2 ^ (min ((k:Nat):Int).toNat IntKind.u8.bits))) &&& BitVec.ofInt IntKind.u8.bits (1:Int)).toNat:Int) == (1:Int))=(bX x).getLsbD k:=by
 have hm:min ((k:Nat):Int).toNat IntKind.u8.bits=k:=by
  show min k 8=k
  omega
 have hx:=x.toNat_lt
 have hd:((x.toNat:Nat):Int).fdiv (2 ^ k)=((x.toNat / 2 ^ k:Nat):Int):=by
  rw [Int.fdiv_eq_ediv_of_nonneg _ (Int.le_of_lt (Int.pow_pos (by decide)))]
  simp
 rw [hm,hd]
 have h1:(BitVec.ofInt IntKind.u8.bits ((x.toNat / 2 ^ k:Nat):Int) &&& BitVec.ofInt IntKind.u8.bits (1:Int)).toNat=x.toNat / 2 ^ k % 2:=by
  show (BitVec.ofInt 8 ((x.toNat / 2 ^ k:Nat):Int) &&& BitVec.ofInt 8 ((1:Nat):Int)).toNat=_
  rw [BitVec.ofInt_natCast,BitVec.ofInt_natCast,BitVec.toNat_and,BitVec.toNat_ofNat,BitVec.toNat_ofNat,show (1 % 2 ^ 8:Nat)=2 ^ 1 - 1 from rfl,Nat.and_two_pow_sub_one_eq_mod]
  rw [Nat.mod_mod_of_dvd _ (by decide)]
 rw [h1,wrap_u8 (by omega),BitVec.getLsbD,bX_toNat,Nat.testBit_eq_decide_div_mod_eq,Bool.eq_iff_iff,beq_iff_eq,decide_eq_true_eq]
 omega
theorem S1_byte (r X:B32) (k:Nat):S1 (r ^^^ (X >>> k))=S1 (r ^^^ bitv (X.getLsbD k)) ^^^ (X >>> (k+1)):=by
 unfold S1
 rw [BitVec.getLsbD_xor,BitVec.getLsbD_xor,bitv_lsb,BitVec.ushiftRight_xor_distrib,BitVec.ushiftRight_xor_distrib,bitv_shr,BitVec.xor_zero,BitVec.getLsbD_ushiftRight,Nat.add_zero,← BitVec.shiftRight_add]
 rw [BitVec.xor_assoc,BitVec.xor_assoc,BitVec.xor_comm (X >>> (k+1))]
theorem Check32_L2_eq {F:Nat} (l:List UInt8) (i:Nat) (x:UInt8) (hx:l[i]? = some x):∀ (m k n:Nat) (r:B32),m+k=8→m < n→ref3_Check32_L2 F l (i:Int) n (nI r) (k:Int)=some (nI (itr m (r ^^^ (bX x >>> k))))
 | 0,k,n,r,hk,hn=>by
  obtain ⟨n,rfl⟩:∃ q,n=q+1:=⟨n - 1,by omega⟩
  obtain rfl:k=8:=by omega
  rw [ref3_Check32_L2]
  have h8:bX x >>> 8=0#32:=by
   apply BitVec.eq_of_toNat_eq
   rw [BitVec.toNat_ushiftRight,bX_toNat,Nat.shiftRight_eq_div_pow]
   have:=x.toNat_lt
   exact Nat.div_eq_of_lt (by omega)
  rw [h8,BitVec.xor_zero]
  rfl
 | m+1,k,n,r,hk,hn=>by
  obtain ⟨n,rfl⟩:∃ q,n=q+1:=⟨n - 1,by omega⟩
  have hlt:i < l.length:=(List.getElem?_eq_some_iff.1 hx).1
  rw [ref3_Check32_L2]
  have hdec:decide ((k:Int) < 8)=true:=by simp; omega
  have hg:l.getD ((i:Nat):Int).toNat 0=x:=getD_of hx
  rw [hdec,cond_true,chk_pos ⟨by omega,by omega⟩,chk_pos (by omega),hg,lett_eq,bit_eq x k (by omega),Stepped_eq,call_some,wrap_id (by omega)]
  have:=Check32_L2_eq (F:=F) l i x hx m (k+1) n (S1 (r ^^^ bitv ((bX x).getLsbD k))) (by omega) (by omega)
  rw [show ((k:Int)+1)=((k+1:Nat):Int) from rfl,this,← S1_byte]
  rfl
/-- The register behind one byte. -/
def crcB (r:B32) (x:UInt8):B32:=itr 8 (r ^^^ bX x)
def crc (l:List UInt8):B32:=l.foldl crcB 0xffffffff#32 ^^^ 0xffffffff#32
theorem loopL {α:Type} (L:Nat→B32→Int→Option α) (l:List UInt8) (hl:l.length≤9223372036854775807) (fin:B32→α)
  (h1:∀ n r (i:Nat) x,l[i]? = some x→L (n+1) r (i:Int)=L n (crcB r x) (IntKind.i64.wrap ((i:Int)+1)))
  (h2:∀ n r,L (n+1) r (l.length:Int)=some (fin r)):∀ (xs:List UInt8) (i n:Nat) (r:B32),l.drop i=xs→i+xs.length=l.length→xs.length < n→L n r (i:Int)=some (fin (xs.foldl crcB r))
 | [],i,n,r,hd,hi,hn=>by
  obtain ⟨n,rfl⟩:∃ q,n=q+1:=⟨n - 1,by omega⟩
  have:i=l.length:=by simpa using hi
  subst this
  exact h2 n r
 | x :: xs,i,n,r,hd,hi,hn=>by
  obtain ⟨n,rfl⟩:∃ q,n=q+1:=⟨n - 1,by omega⟩
  have hx:l[i]? = some x:=by
   have:=List.getElem?_drop (xs:=l) (i:=i) (j:=0)
   rw [hd] at this
   simpa using this.symm
  have hlt:i < l.length:=(List.getElem?_eq_some_iff.1 hx).1
  rw [h1 n r i x hx,wrap_succ (by omega)]
  refine loopL L l hl fin h1 h2 xs (i+1) n _ ?_ (by simp at hi; omega) (by simpa using hn)
  rw [← List.drop_drop,hd]
  rfl
theorem Check32_eq {F:Nat} (l:List UInt8) (hl:l.length≤9223372036854775807) (hF:l.length < F) (h9:8 < F):ref3_Check32 F l=some (nI (crc l)):=by
 unfold ref3_Check32
 have h:=loopL (α:=Int) (fun n r i=>ref3_Check32_L0 F l n (nI r) i) l hl nI (fun n r i x hx=>by
   have hlt:i < l.length:=(List.getElem?_eq_some_iff.1 hx).1
   show ref3_Check32_L0 F l (n+1) (nI r) (i:Int)=_
   rw [ref3_Check32_L0,dec_lt hlt,cond_true,show (0:Int)=((0:Nat):Int) from rfl,Check32_L2_eq l i x hx 8 0 F r (by omega) h9,call_some]
   rw [BitVec.ushiftRight_zero]
   rfl) (fun n r=>by
   show ref3_Check32_L0 F l (n+1) (nI r) (l.length:Int)=_
   rw [ref3_Check32_L0,dec_end]
   rfl) l 0 F 0xffffffff#32 (by simp) (by simp) hF
 have hc:(4294967295:Int)=nI 0xffffffff#32:=by decide
 simp only [Int.natCast_zero] at h
 rw [hc]
 rw [show ref3_Check32_L0 F l F (nI 0xffffffff#32) 0=_ from h,call_some,nI_xor]
 rfl
/-- Four steps: the table. -/
theorem tab_eq:∀ m:Fin 16,glob_filter_steps.getD m.val 0=nI (itr 4 (BitVec.ofNat 32 m.val)):=by decide
theorem S1_shl (y:B32) (h:y.toNat < 2147483648):S1 (y <<< 1)=y:=by
 unfold S1
 have h0:(y <<< 1).getLsbD 0=false:=by simp [BitVec.getLsbD_shiftLeft]
 rw [h0,if_neg (by decide),BitVec.xor_zero]
 apply BitVec.eq_of_toNat_eq
 rw [BitVec.toNat_ushiftRight,BitVec.toNat_shiftLeft,Nat.shiftRight_eq_div_pow,Nat.shiftLeft_eq,Nat.mod_eq_of_lt (by omega)]
 omega
theorem itr_shl:∀ (k:Nat) (y:B32),y.toNat * 2 ^ k < 4294967296→itr k (y <<< k)=y
 | 0,y,_=>by simp [itr]
 | k+1,y,h=>by
  have hp:0 < 2 ^ k:=Nat.two_pow_pos k
  have h1:y.toNat * 2 ^ k < 2147483648:=by
   rw [Nat.pow_succ,← Nat.mul_assoc] at h
   omega
  rw [itr,BitVec.shiftLeft_add,S1_shl,itr_shl k y (by omega)]
  rw [BitVec.toNat_shiftLeft,Nat.shiftLeft_eq]
  exact Nat.lt_of_le_of_lt (Nat.mod_le _ _) h1
theorem split4 (z:B32):z=((z >>> 4) <<< 4) ^^^ (z &&& 15#32):=by
 apply BitVec.eq_of_getLsbD_eq
 intro i hi
 rw [BitVec.getLsbD_xor,BitVec.getLsbD_shiftLeft,BitVec.getLsbD_ushiftRight,BitVec.getLsbD_and]
 have h15:(15#32).getLsbD i=decide (i < 4):=by
  have:∀ i:Fin 32,(15#32).getLsbD i.val=decide (i.val < 4):=by decide
  exact this ⟨i,hi⟩
 rw [h15]
 by_cases h4:i < 4
 ·simp [h4]
 ·have:4+(i - 4)=i:=by omega
  simp [h4,this]
  intro hb
  exact BitVec.lt_of_getLsbD hb
theorem four (z:B32):nI ((z >>> 4) ^^^ itr 4 (z &&& 15#32))=nI (itr 4 z):=by
 congr 1
 conv=>rhs; rw [split4 z,itr_xor]
 rw [itr_shl 4 (z >>> 4)]
 rw [BitVec.toNat_ushiftRight,Nat.shiftRight_eq_div_pow]
 have:=z.isLt
 omega
theorem and15 (z:B32):(z &&& 15#32).toNat < 16:=by
 rw [BitVec.toNat_and,show (15#32).toNat=2 ^ 4 - 1 from rfl,Nat.and_two_pow_sub_one_eq_mod]
 omega
theorem tab_at (z:B32):glob_filter_steps.getD (nI (z &&& 15#32)).toNat 0=nI (itr 4 (z &&& 15#32)):=by
 have h:=tab_eq ⟨(z &&& 15#32).toNat,and15 z⟩
 simp only [BitVec.ofNat_toNat,BitVec.setWidth_eq] at h
 rw [← h]
 rfl
theorem Sum_L0_step {F:Nat} (l:List UInt8) (n:Nat) (r:B32) (i:Nat) (x:UInt8) (hx:l[i]? = some x):filter_Sum_L0 F l (n+1) (nI r) (i:Int)=filter_Sum_L0 F l n (nI (crcB r x)) (IntKind.i64.wrap ((i:Int)+1)):=by
 have hlt:i < l.length:=(List.getElem?_eq_some_iff.1 hx).1
 have hg:l.getD ((i:Nat):Int).toNat 0=x:=getD_of hx
 have hw:IntKind.u32.wrap ((x.toNat:Nat):Int)=nI (bX x):=by
  rw [nI_bX,wrap_u32 ⟨by omega,by have:=x.toNat_lt; omega⟩]
 have h15:(15:Int)=nI 15#32:=by decide
 have h4:(4:Int).toNat=((4:Nat):Int).toNat:=rfl
 have hin:∀ z:B32,0≤nI (z &&& 15#32)∧nI (z &&& 15#32) < 16:=fun z=>⟨(nI_lt _).1,by have:=and15 z; unfold nI; omega⟩
 rw [filter_Sum_L0,dec_lt hlt,cond_true,chk_in hlt,hg,hw,nI_xor,lett_eq,h15,nI_and,lett_eq,chk_pos (hin _),h4,nI_shr _ 4 (by decide),tab_at,nI_xor,four,lett_eq,nI_and,lett_eq,chk_pos (hin _),nI_shr _ 4 (by decide),tab_at,nI_xor,four,lett_eq]
 rfl
theorem Sum_eq {F:Nat} (l:List UInt8) (hl:l.length≤9223372036854775807) (hF:l.length < F):filter_Sum F l=some (nI (crc l)):=by
 unfold filter_Sum
 have h:=loopL (α:=Int) (fun n r i=>filter_Sum_L0 F l n (nI r) i) l hl nI (fun n r i x hx=>Sum_L0_step l n r i x hx) (fun n r=>by
   show filter_Sum_L0 F l (n+1) (nI r) (l.length:Int)=_
   rw [filter_Sum_L0,dec_end]
   rfl) l 0 F 0xffffffff#32 (by simp) (by simp) hF
 have hc:(4294967295:Int)=nI 0xffffffff#32:=by decide
 simp only [Int.natCast_zero] at h
 rw [hc,show filter_Sum_L0 F l F (nI 0xffffffff#32) 0=_ from h,call_some,nI_xor,BitVec.xor_comm]
 rfl
def hexT:List UInt8:=[48,49,50,51,52,53,54,55,56,57,97,98,99,100,101,102]
def hexd (m:Nat):UInt8:=hexT.getD m 0
def dig (b:B32) (k:Nat):Nat:=(b >>> k).toNat % 16
theorem dig_lt (b:B32) (k:Nat):dig b k < 16:=Nat.mod_lt _ (by decide)
theorem and15_mod (z:B32):(z &&& 15#32).toNat=z.toNat % 16:=by
 rw [BitVec.toNat_and,show (15#32).toNat=2 ^ 4 - 1 from rfl,Nat.and_two_pow_sub_one_eq_mod]
theorem Hex_step {F n:Nat} (b:B32) (v:List UInt8) (hv:v.length=8) (i:Nat) (hi:i < 8):filter_Hex_L0 F (nI b) (n+1) v (i:Int)=filter_Hex_L0 F (nI b) n (v.set i (hexd (dig b (28 - 4 * i)))) ((i+1:Nat):Int):=by
 have h15:(15:Int)=nI 15#32:=by decide
 have hw:IntKind.i64.wrap ((28:Int) - (IntKind.i64.wrap ((4:Int) * (i:Int))))=((28 - 4 * i:Nat):Int):=by
  rw [wrap_id (x:=4 * (i:Int)) (by omega),wrap_id (by omega)]
  omega
 have hdec:decide ((i:Int) < 8)=true:=by simp; omega
 have hz:nI (b >>> (28 - 4 * i) &&& 15#32)=((dig b (28 - 4 * i):Nat):Int):=by
  unfold nI dig
  rw [and15_mod]
 have hlt:=dig_lt b (28 - 4 * i)
 rw [filter_Hex_L0,hdec,cond_true,hw,chk_pos (by omega),lett_eq,nI_shr _ _ (by omega),h15,nI_and,lett_eq,hz]
 have hh:([48,49,50,51,52,53,54,55,56,57,97,98,99,100,101,102]:List UInt8).getD (((dig b (28 - 4 * i):Nat):Int)).toNat 0=hexd (dig b (28 - 4 * i)):=rfl
 rw [chk_pos ⟨by omega,by simp; omega⟩,lett_eq,hh]
 have hu:(0:Int)≤((hexd (dig b (28 - 4 * i))).toNat:Int)∧((hexd (dig b (28 - 4 * i))).toNat:Int) < 256:=⟨by omega,by have:=(hexd (dig b (28 - 4 * i))).toNat_lt; omega⟩
 rw [chk_pos ⟨⟨by omega,by omega⟩,by omega⟩]
 rw [chk_pos hu,wrap_succ (by omega)]
 congr 1
 rw [Int.toNat_natCast]
 congr 1
 show UInt8.ofNat (hexd (dig b (28 - 4 * i))).toNat=_
 simp
theorem Hex_eq {F:Nat} (hF:8 < F) (b:B32):filter_Hex F (nI b)=some [hexd (dig b 28),hexd (dig b 24),hexd (dig b 20),hexd (dig b 16),hexd (dig b 12),hexd (dig b 8),hexd (dig b 4),hexd (dig b 0)]:=by
 obtain ⟨n,rfl⟩:∃ n,F=n+9:=⟨F - 9,by omega⟩
 unfold filter_Hex
 have h:filter_Hex_L0 (n+9) (nI b) (n+9) (List.replicate 8 0) 0=some [hexd (dig b 28),hexd (dig b 24),hexd (dig b 20),hexd (dig b 16),hexd (dig b 12),hexd (dig b 8),hexd (dig b 4),hexd (dig b 0)]:=by
  rw [show (0:Int)=((0:Nat):Int) from rfl]
  rw [Hex_step b _ (by simp) 0 (by decide),Hex_step b _ (by simp) 1 (by decide),Hex_step b _ (by simp) 2 (by decide),Hex_step b _ (by simp) 3 (by decide),Hex_step b _ (by simp) 4 (by decide),Hex_step b _ (by simp) 5 (by decide),Hex_step b _ (by simp) 6 (by decide),Hex_step b _ (by simp) 7 (by decide)]
  rw [filter_Hex_L0]
  rfl
 rw [h,call_some,chk_pos ⟨by decide,rfl⟩]
 rfl
theorem hex_cut:∀ m:Fin 16,(hexT.drop m.val).take (m.val+1 - m.val)=[hexd m.val]:=by decide
theorem Hexed_step {F n:Nat} (c:B32) (acc:List UInt8) (hacc:acc.length≤8) (i:Nat) (hi:i < 8):ref3_Hexed_L0 F (n+1) (nI c) acc (i:Int)=ref3_Hexed_L0 F n (nI (c >>> 4)) (hexd (dig c 0) :: acc) ((i+1:Nat):Int):=by
 have hdec:decide ((i:Int) < 8)=true:=by simp; omega
 have hm:(nI c).tmod 16=((dig c 0:Nat):Int):=by
  unfold nI dig
  rw [Int.tmod_eq_emod_of_nonneg (by omega),BitVec.ushiftRight_zero]
  omega
 have hd:(nI c).tdiv 16=nI (c >>> 4):=by
  unfold nI
  rw [BitVec.toNat_ushiftRight,Nat.shiftRight_eq_div_pow,Int.tdiv_eq_ediv_of_nonneg (by omega)]
  omega
 have hlt:=dig_lt c 0
 have hw:IntKind.u32.wrap ((dig c 0:Nat)+(1:Int))=((dig c 0+1:Nat):Int):=by
  rw [wrap_u32 (by omega)]
  omega
 have hc:=hex_cut ⟨dig c 0,hlt⟩
 simp only at hc
 rw [ref3_Hexed_L0,hdec,cond_true,hm,hd,hw,chk_pos ⟨by omega,by omega,by simp; omega⟩,lett_eq,Int.toNat_natCast,Int.toNat_natCast]
 rw [show ([48,49,50,51,52,53,54,55,56,57,97,98,99,100,101,102]:List UInt8)=hexT from rfl,hc]
 rw [chk_pos (by simp; omega),wrap_u32 (nI_lt _),wrap_succ (by omega)]
 rfl
theorem dig_shr (b:B32) (j k:Nat):dig (b >>> j) k=dig b (j+k):=by
 unfold dig
 rw [← BitVec.shiftRight_add]
theorem Hexed_eq {F:Nat} (hF:8 < F) (b:B32):ref3_Hexed F (nI b)=some [hexd (dig b 28),hexd (dig b 24),hexd (dig b 20),hexd (dig b 16),hexd (dig b 12),hexd (dig b 8),hexd (dig b 4),hexd (dig b 0)]:=by
 obtain ⟨n,rfl⟩:∃ n,F=n+9:=⟨F - 9,by omega⟩
 unfold ref3_Hexed
 have h:ref3_Hexed_L0 (n+9) (n+9) (nI b) [] 0=some [hexd (dig b 28),hexd (dig b 24),hexd (dig b 20),hexd (dig b 16),hexd (dig b 12),hexd (dig b 8),hexd (dig b 4),hexd (dig b 0)]:=by
  rw [show (0:Int)=((0:Nat):Int) from rfl]
  rw [Hexed_step _ _ (by simp) 0 (by decide),Hexed_step _ _ (by simp) 1 (by decide),Hexed_step _ _ (by simp) 2 (by decide),Hexed_step _ _ (by simp) 3 (by decide),Hexed_step _ _ (by simp) 4 (by decide),Hexed_step _ _ (by simp) 5 (by decide),Hexed_step _ _ (by simp) 6 (by decide),Hexed_step _ _ (by simp) 7 (by decide)]
  rw [ref3_Hexed_L0]
  simp only [dig_shr]
  rfl
 rw [h,call_some]
end Go.Vm.ArzG.L
