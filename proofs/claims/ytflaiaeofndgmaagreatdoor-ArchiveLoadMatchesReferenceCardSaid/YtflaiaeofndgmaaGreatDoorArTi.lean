/-
  archive: all lines of a saved archive,in both texts.
-/
import Derived.Test.YtflaiaeofndgmaaGreatDoorArTh
import Derived.Test.YtflaiaeofndgmaaGreatDoorArLz
namespace Go.Vm.ArzG.L
open Go.Vm.ArzM
/-- The letters of a checksum. -/
def hx8 (b:B32):List UInt8:=[hexd (dig b 28),hexd (dig b 24),hexd (dig b 20),hexd (dig b 16),hexd (dig b 12),hexd (dig b 8),hexd (dig b 4),hexd (dig b 0)]
theorem sealed_eq {F:Nat} (hF:5000000≤F) (s:List UInt8) (hs:s.length≤4000000):archive_sealed F s=some (((s++[32])++hx8 (crc s))++[10]):=by
 unfold archive_sealed
 have h8:(hx8 (crc s)).length=8:=rfl
 rw [chk_pos (by simp; omega),Sum_eq s (by omega) (by omega),call_some,Hex_eq (by omega),call_some]
 show chk ((s++[32]).length+(hx8 (crc s)).length≤_) (chk ((s++[32]++hx8 (crc s)).length+_≤_) _)=_
 rw [chk_pos (by rw [h8]; simp; omega),chk_pos (by simp [h8]; omega)]
 rfl
theorem sealed_iff {x h:List UInt8} (h9:9≤x.length):((x.take (x.length - 9)++[32])++h)++[10]=x++[10]↔x.getD (x.length - 9) 0=32∧h=x.drop (x.length - 9+1):=by
 have hl:x.length - 9 < x.length:=by omega
 have h1:x.take (x.length - 9)++(x.getD (x.length - 9) 0 :: x.drop (x.length - 9+1))=x:=by
  rw [List.getD_eq_getElem?_getD,List.getElem?_eq_getElem hl,Option.getD_some,← List.drop_eq_getElem_cons hl,List.take_append_drop]
 rw [List.append_cancel_right_eq]
 constructor
 ·intro h
  rw [List.append_assoc] at h
  have h2:=h.trans h1.symm
  have h3:=List.append_cancel_left h2
  simp only [List.cons_append,List.nil_append,List.cons.injEq] at h3
  exact ⟨h3.1.symm,h3.2⟩
 ·rintro ⟨h2,rfl⟩
  rw [h2] at h1
  rw [List.append_assoc]
  exact h1
/-- What the reference makes of the words of a line. -/
def refWords (F:Nat) (y1 v9 v10 v11:List (List UInt8)) (v12:List Int) (v13:List (List UInt8)):Option (List Int×List (List UInt8)×List (List UInt8)×List (List UInt8)×List (List UInt8)) :=
 call (chk (0≤(0:Int)∧(0:Int) < y1.length) <|
   lett ((bif ((y1.getD (0:Int).toNat []) == ([112,105,101,99,101]:List UInt8)) then ((y1.length:Int) == (3:Int)) else false)) fun z10 =>
   bif z10 then refPiece F y1 v12 v13 else some (v12,v13))
  fun (v1,v2) =>
 chk (0≤(0:Int)∧(0:Int) < y1.length) <|
 lett ((bif (!((y1.getD (0:Int).toNat []) == ([110,97,109,101]:List UInt8))) then true else (decide ((y1.length:Int) < (2:Int))))) fun z12 =>
 bif z12 then
  some (v1,v2,v11,v9,v10)
 else refName F y1 v9 v10 v11 v1 v2
/-- What the reference makes of a line. -/
def refBody (F:Nat) (x:List UInt8) (v9 v10 v11:List (List UInt8)) (v12:List Int) (v13:List (List UInt8)):Option (List Int×List (List UInt8)×List (List UInt8)×List (List UInt8)×List (List UInt8)) :=
 chk ((((decide ((IntKind.i64.wrap ((x.length:Int) - (9:Int))) < (0:Int))) == false) && true)=true→0≤(IntKind.i64.wrap ((x.length:Int) - (9:Int)))∧(IntKind.i64.wrap ((x.length:Int) - (9:Int))) < x.length) <|
 lett (((x.getD (IntKind.i64.wrap ((x.length:Int) - (9:Int))).toNat 0).toNat:Int)) fun z4 =>
 lett ((bif (decide ((IntKind.i64.wrap ((x.length:Int) - (9:Int))) < (0:Int))) then true else (z4 != (32:Int)))) fun z5 =>
 chk (((z5 == false) && true)=true→0≤(0:Int)∧(0:Int)≤(IntKind.i64.wrap ((x.length:Int) - (9:Int)))∧(IntKind.i64.wrap ((x.length:Int) - (9:Int)))≤(x.length:Int)) <|
 lett (((x.drop (0:Int).toNat).take ((IntKind.i64.wrap ((x.length:Int) - (9:Int))).toNat - (0:Int).toNat))) fun z6 =>
 call ((bif ((z5 == false) && true) then ref3_Check32 F z6 else some 0)) fun y5 =>
 call ((bif ((z5 == false) && true) then ref3_Hexed F y5 else some [])) fun y6 =>
 lett (IntKind.i64.wrap ((IntKind.i64.wrap ((x.length:Int) - (9:Int)))+(1:Int))) fun z7 =>
 chk (((z5 == false) && true)=true→0≤z7∧z7≤(x.length:Int)∧(x.length:Int)≤(x.length:Int)) <|
 lett (((x.drop z7.toNat).take ((x.length:Int).toNat - z7.toNat))) fun z8 =>
 bif (bif z5 then true else (!(y6 == z8))) then
  some (v12,v13,v11,v9,v10)
 else
  chk (0≤(0:Int)∧(0:Int)≤(IntKind.i64.wrap ((x.length:Int) - (9:Int)))∧(IntKind.i64.wrap ((x.length:Int) - (9:Int)))≤(x.length:Int)) <|
  lett (((x.drop (0:Int).toNat).take ((IntKind.i64.wrap ((x.length:Int) - (9:Int))).toNat - (0:Int).toNat))) fun z9 =>
  call (ref3_Parts F z9 (32:Int)) fun y1=>refWords F y1 v9 v10 v11 v12 v13
theorem Saved_step {F n i:Nat} {y4 names data lost pc:List (List UInt8)} {nu:List Int} {x:List UInt8} (hx:y4[i]? = some x) (hl:y4.length≤4000000):ref3_Saved_L0 F y4 (n+1) names data lost nu pc (i:Int) =
  call (refBody F x names data lost nu pc) fun v=>ref3_Saved_L0 F y4 n v.2.2.2.1 v.2.2.2.2 v.2.2.1 v.1 v.2.1 ((i+1:Nat):Int):=by
 have hi:=lt_of_get hx
 rw [ref3_Saved_L0,dec_lt hi,cond_true,chk_in hi,Int.toNat_natCast,getD_of hx,Go.Vm.wrap_succ (by omega)]
 rfl
/-- What Load makes of the words of a line. -/
def goWords (F:Nat) (st:Ar) (ld:Ld) (ws:List (List UInt8)):Option (Ar×Ld) :=
 if ws.getD 0 []=[112,105,101,99,101]∧ws.length=3 then (filter_Decode F [⟨4,0⟩] (ws.getD 2 [])).bind fun te=>some (st,pieceTo ld (ws.getD 1 []) te.1 te.2)
 else if ws.getD 0 []=[110,97,109,101]∧2≤ws.length then nameF F st ld ws else some (st,ld)
/-- Both sides agree on what there is. -/
structure Both (st:Ar) (ld:Ld) (names data:List (List UInt8)):Prop where
 inv:Inv st names data
 sizes:∀ p∈ld.B,p.2.length≤16384
theorem words_step {F:Nat} (hF:5000000≤F) {st:Ar} {ld:Ld} {names data ws:List (List UInt8)} (h:Both st ld names data) (hB:ld.B.length≤999999) (hlo:ld.lost.length≤999999) (h0:0 < ws.length) (hwl:ws.length≤4000000) (hw:∀ y∈ws,y.length≤2200000) :
  ∃ st' ld' names' data',goWords F st ld ws=some (st',ld')∧refWords F ws names data ld.lost (nums ld) (pcs ld)=some (nums ld',pcs ld',ld'.lost,names',data')∧Both st' ld' names' data'∧ld'.B.length≤ld.B.length+1∧ld'.lost.length≤ld.lost.length+1:=by
 have hin:0≤(0:Int)∧(0:Int) < (ws.length:Int):=⟨by decide,by omega⟩
 have i0:ws.getD (0:Int).toNat []=ws.getD 0 []:=rfl
 unfold goWords refWords
 rw [chk_pos hin,i0]
 by_cases hp:ws.getD 0 []=[112,105,101,99,101]
 ·have hne:¬ ws.getD 0 []=[110,97,109,101]:=by rw [hp]; decide
  rw [hp,beq_self_eq_true,cond_true,lett_eq]
  have hn:(([112,105,101,99,101]:List UInt8) == [110,97,109,101])=false:=by decide
  by_cases h3:ws.length=3
  ·obtain ⟨te,p1,p2,p3,p4,p5⟩:=piece_step hF hB h.sizes h3 hw
   rw [if_pos ⟨rfl,h3⟩,p1,Option.bind_some,beq_iff_eq.2 (show (ws.length:Int)=3 by omega),cond_true,p2,call_some]
   refine ⟨st,_,names,data,rfl,?_,⟨h.inv,p3⟩,p4,by rw [p5]; omega⟩
   simp only [chk_pos hin,i0,hp,hn,Bool.not_false,cond_true,lett_eq,p5]
  ·rw [if_neg (fun h=>h3 h.2),if_neg (fun h=>by have:=h.1; revert this; decide),beq_eq_false_iff_ne.2 (show (ws.length:Int)≠3 by omega),cond_false,call_some]
   refine ⟨st,ld,names,data,rfl,?_,h,by omega,by omega⟩
   simp only [chk_pos hin,i0,hp,hn,Bool.not_false,cond_true,lett_eq]
 ·rw [if_neg (fun h=>hp h.1),beq_eq_false_iff_ne.2 hp,cond_false,lett_eq,cond_false,call_some]
  simp only [chk_pos hin,i0]
  by_cases hn:ws.getD 0 []=[110,97,109,101]
  ·rw [hn,beq_self_eq_true]
   by_cases h2:2≤ws.length
   ·obtain ⟨st',ld',names',data',p1,p2,p3,p4,p5⟩:=name_step hF h.inv (by omega) h.sizes h2 hwl (fun y hy=>Nat.le_trans (hw y hy) (by decide)) hlo
    rw [if_pos ⟨rfl,h2⟩,p1]
    refine ⟨st',ld',names',data',rfl,?_,⟨p3,by rw [p4]; exact h.sizes⟩,by rw [p4]; omega,p5⟩
    simp only [Bool.not_true,cond_false,lett_eq]
    rw [decide_eq_false (by omega),cond_false]
    exact p2
   ·rw [if_neg (fun h=>h2 h.2)]
    refine ⟨st,ld,names,data,rfl,?_,h,by omega,by omega⟩
    simp only [Bool.not_true,cond_false,lett_eq]
    rw [decide_eq_true (by omega),cond_true]
  ·rw [if_neg (fun h=>hn h.1),beq_eq_false_iff_ne.2 hn]
   refine ⟨st,ld,names,data,rfl,?_,h,by omega,by omega⟩
   simp only [Bool.not_false,cond_true,lett_eq]
theorem spl_word {b:UInt8} {s y:List UInt8} (h:y∈spl b s):y.length≤s.length:=by
 have h1:=spl_len b s
 have h2:y.length≤((spl b s).map List.length).sum:=by
  have:∀ (l:List (List UInt8)),y∈l→y.length≤(l.map List.length).sum:=by
   intro l
   induction l with
   | nil=>intro h; simp at h
   | cons a r ih =>
    intro h
    rcases List.mem_cons.1 h with rfl | h
    ·simp
    ·have:=ih h
     simp
     omega
  exact this _ h
 have h3:0 < (spl b s).length:=List.length_pos_iff.2 (spl_ne b s)
 omega
theorem line_step {F:Nat} (hF:5000000≤F) {st:Ar} {ld:Ld} {names data:List (List UInt8)} (h:Both st ld names data) (hB:ld.B.length≤999999) (hlo:ld.lost.length≤999999) {x:List UInt8} (hx:x.length≤2200000) :
  ∃ st' ld' names' data',loadLine F st ld x=some (st',ld')∧refBody F x names data ld.lost (nums ld) (pcs ld)=some (nums ld',pcs ld',ld'.lost,names',data')∧Both st' ld' names' data'∧9 * ld'.B.length≤9 * ld.B.length+x.length∧9 * ld'.lost.length≤9 * ld.lost.length+x.length:=by
 have hw9:IntKind.i64.wrap ((x.length:Int) - 9)=(x.length:Int) - 9:=wrap_id (by omega)
 unfold loadLine refBody
 rw [hw9]
 by_cases h9:x.length < 9
 ·rw [if_pos h9]
  refine ⟨st,ld,names,data,rfl,?_,h,by omega,by omega⟩
  rw [decide_eq_true (show (x.length:Int) - 9 < 0 by omega)]
  rfl
 ·rw [if_neg h9]
  have hn:(x.length:Int) - 9=((x.length - 9:Nat):Int):=by omega
  have hz:(((x.getD (x.length - 9) 0).toNat:Int) != 32) = !(x.getD (x.length - 9) 0 == 32):=by
   unfold bne
   congr 1
   rw [Bool.eq_iff_iff,beq_iff_eq,beq_iff_eq]
   constructor
   ·intro h
    apply UInt8.toNat_inj.1
    have h32:(32:UInt8).toNat=32:=rfl
    omega
   ·intro h
    rw [h]
    rfl
  have ht:((x.drop (0:Int).toNat).take ((x.length - 9) - (0:Int).toNat))=x.take (x.length - 9):=rfl
  have htl:(x.take (x.length - 9)).length=x.length - 9:=by rw [List.length_take]; omega
  have hd8:((x.drop (x.length - 9+1)).take (x.length - (x.length - 9+1)))=x.drop (x.length - 9+1):=List.take_of_length_le (by rw [List.length_drop]; omega)
  rw [hn,decide_eq_false (show ¬ ((x.length - 9:Nat):Int) < 0 by omega),chk_pos (fun _=>⟨by omega,by omega⟩),lett_eq,Int.toNat_natCast,hz,lett_eq,cond_false,chk_pos (fun _=>⟨by decide,by omega,by omega⟩),lett_eq,Go.Vm.wrap_succ (by omega),sealed_eq hF _ (by omega),Option.bind_some]
  cases hsp:(x.getD (x.length - 9) 0 == 32) with
  | false =>
   have h32:¬ x.getD (x.length - 9) 0=32:=by simpa using hsp
   rw [if_pos (fun e=>h32 ((sealed_iff (by omega)).1 e).1)]
   exact ⟨st,ld,names,data,rfl,rfl,h,by omega,by omega⟩
  | true =>
   have h32:x.getD (x.length - 9) 0=32:=by simpa using hsp
   have hch:ref3_Check32 F (x.take (x.length - 9))=some (nI (crc (x.take (x.length - 9)))):=Check32_eq _ (by omega) (by omega) (by omega)
   have hhe:ref3_Hexed F (nI (crc (x.take (x.length - 9))))=some (hx8 (crc (x.take (x.length - 9)))):=Hexed_eq (by omega) _
   simp only [Bool.not_true,beq_self_eq_true,Bool.and_true,cond_true,cond_false,lett_eq,ht,hch,hhe,call_some]
   rw [chk_pos (fun _=>⟨by omega,by omega,by omega⟩)]
   simp only [Int.toNat_natCast,hd8]
   by_cases he:hx8 (crc (x.take (x.length - 9)))=x.drop (x.length - 9+1)
   ·rw [if_neg (fun hne=>hne ((sealed_iff (by omega)).2 ⟨h32,he⟩)),he,beq_self_eq_true,Bool.not_true,cond_false,chk_pos ⟨by decide,by omega,by omega⟩]
    have hP:ref3_Parts F (x.take (x.length - 9)) 32=some (spl 32 (x.take (x.length - 9))):=Parts_eq 32 _ (by omega) (by omega)
    have hws:∀ y∈spl 32 (x.take (x.length - 9)),y.length≤2200000:=fun y hy=>by
     have:=spl_word hy
     omega
    have h0:0 < (spl 32 (x.take (x.length - 9))).length:=List.length_pos_iff.2 (spl_ne _ _)
    have hsl:=spl_len 32 (x.take (x.length - 9))
    rw [hP,call_some,Split_eq 32 _ (by omega) (by omega),Option.bind_some,if_pos ⟨h0,fun y hy=>Nat.le_trans (hws y hy) (by decide)⟩]
    obtain ⟨st',ld',names',data',p1,p2,p3,p4,p5⟩:=words_step hF h hB hlo h0 (by omega) hws
    exact ⟨st',ld',names',data',p1,p2,p3,by omega,by omega⟩
   ·rw [if_pos (fun e=>he ((sealed_iff (by omega)).1 e).2),beq_eq_false_iff_ne.2 he]
    exact ⟨st,ld,names,data,rfl,rfl,h,by omega,by omega⟩
theorem loop_ok {F:Nat} (hF:5000000≤F) {y4:List (List UInt8)} (hy:y4.length≤3000000):∀ (m:Nat) (s:List UInt8) (n k i:Nat) (st:Ar) (ld:Ld) (names data ls:List (List UInt8)),s.length≤m→m < n→m+2 < k→y4.drop i=ls→i+ls.length=y4.length→(ls=spl 10 s∨(s=[]∧ls=[])) →
  Both st ld names data→9 * ld.B.length+s.length≤2097152→9 * ld.lost.length+s.length≤2097152 →
  ∃ st' ld' names' data',loadLoop F n s st ld=some (st',ld')∧ref3_Saved_L0 F y4 k names data ld.lost (nums ld) (pcs ld) (i:Int)=some (names',data',ld'.lost)∧Both st' ld' names' data'∧ld'.lost.length≤1000000:=by
 have done:∀ (n k i:Nat) (st:Ar) (ld:Ld) (names data:List (List UInt8)),0 < n→0 < k→i=y4.length→loadLoop F n [] st ld=some (st,ld)∧ref3_Saved_L0 F y4 k names data ld.lost (nums ld) (pcs ld) (i:Int)=some (names,data,ld.lost):=by
  intro n k i st ld names data hn hk hi
  obtain ⟨n,rfl⟩:∃ q,n=q+1:=⟨n - 1,by omega⟩
  obtain ⟨k,rfl⟩:∃ q,k=q+1:=⟨k - 1,by omega⟩
  subst hi
  exact ⟨by rw [loadLoop,if_pos rfl],by rw [ref3_Saved_L0,dec_end,cond_false]⟩
 intro m
 induction m with
 | zero =>
  intro s n k i st ld names data ls hs hn hk hd hl hls hb h1 h2
  have:s=[]:=List.length_eq_zero_iff.1 (by omega)
  subst this
  rcases hls with rfl | ⟨_,rfl⟩
  ·obtain ⟨k,rfl⟩:∃ q,k=q+1:=⟨k - 1,by omega⟩
   obtain ⟨q1,q2,q3⟩:=dropA (show y4.drop i=[] :: [] from hd)
   obtain ⟨st',ld',names',data',p1,p2,p3,p4,p5⟩:=line_step hF hb (by omega) (by omega) (x:=[]) (by simp)
   have e1:loadLine F st ld []=some (st,ld):=if_pos (by decide)
   rw [e1] at p1
   cases p1
   obtain ⟨w1,w2⟩:=done n k (i+1) st ld names' data' (by omega) (by omega) (by simp [spl] at hl; omega)
   refine ⟨st,ld,names',data',w1,?_,p3,by omega⟩
   rw [Saved_step q2 (by omega),p2,call_some]
   exact w2
  ·obtain ⟨w1,w2⟩:=done n k i st ld names data (by omega) (by omega) (by simpa using hl)
   exact ⟨st,ld,names,data,w1,w2,hb,by omega⟩
 | succ m ih =>
  intro s n k i st ld names data ls hs hn hk hd hl hls hb h1 h2
  by_cases h0:s.length≤m
  ·exact ih s n k i st ld names data ls h0 (by omega) (by omega) hd hl hls hb h1 h2
  have hne:s≠[]:=by rintro rfl; simp at h0
  have hls2:ls=spl 10 s:=hls.resolve_right fun h=>hne h.1
  subst hls2
  obtain ⟨n,rfl⟩:∃ q,n=q+1:=⟨n - 1,by omega⟩
  obtain ⟨k,rfl⟩:∃ q,k=q+1:=⟨k - 1,by omega⟩
  rw [loadLoop,if_neg hne]
  rcases idx_cases 10 s with ⟨hm,_⟩ | ⟨p,q,rfl,hm,_⟩
  ·rw [spl_none hm] at hd hl
   obtain ⟨q1,q2,q3⟩:=dropA hd
   obtain ⟨st',ld',names',data',p1,p2,p3,p4,p5⟩:=line_step hF hb (by omega) (by omega) (x:=s) (by omega)
   obtain ⟨w1,w2⟩:=done n k (i+1) st' ld' names' data' (by omega) (by omega) (by simp at hl; omega)
   refine ⟨st',ld',names',data',?_,?_,p3,by omega⟩
   ·rw [Cut_none hm,Option.bind_some,if_pos (by show s.length≤_; omega),p1,Option.bind_some]
    exact w1
   ·rw [Saved_step q2 (by omega),p2,call_some]
    exact w2
  ·have hlen:(p++10 :: q).length=p.length+1+q.length:=by simp; omega
   rw [spl_some hm] at hd hl
   obtain ⟨q1,q2,q3⟩:=dropA hd
   obtain ⟨st',ld',names',data',p1,p2,p3,p4,p5⟩:=line_step hF hb (by omega) (by omega) (x:=p) (by omega)
   obtain ⟨st2,ld2,names2,data2,w1,w2,w3,w4⟩:=ih q n k (i+1) st' ld' names' data' (spl 10 q) (by omega) (by omega) (by omega) q3 (by simp at hl; omega) (.inl rfl) p3 (by omega) (by omega)
   refine ⟨st2,ld2,names2,data2,?_,?_,w3,w4⟩
   ·rw [Cut_some hm (by omega),Option.bind_some,if_pos (by show p.length≤_; omega),p1,Option.bind_some]
    exact w1
   ·rw [Saved_step q2 (by omega),p2,call_some]
    exact w2
/-- What Load makes of a saved archive against what the reference reads in it. -/
theorem load_law (s:List UInt8) (hs:¬ 2097152 < s.length):∃ (F n:Nat) (st:Ar) (ld:Ld) (names data missing:List (List UInt8)),loadLoop F n s ⟨[],[],[]⟩ ⟨[],[]⟩=some (st,ld)∧ref3_Saved F s=some (names,data,missing)∧slices_Equal_string F ld.lost missing=some true ∧
  slices_Clone_string F st.O=some st.O∧st.O.length=names.length∧slices_IsSorted_string F st.O=some true∧data.length=names.length∧(∀ (i:Nat) (x d:List UInt8),names[i]? = some x→data[i]? = some d→getF st x=some (d,0))∧names.length≤1000000000:=by
 have hsl:=spl_len 10 s
 obtain ⟨st,ld,names,data,h1,h2,h3,h4⟩:=loop_ok (F:=5000000) (by decide) (y4:=spl 10 s) (by omega) s.length s (s.length+1) 5000000 0 ⟨[],[],[]⟩ ⟨[],[]⟩ [] [] (spl 10 s) (Nat.le_refl _) (by omega) (by omega) rfl (by simp) (.inl rfl) ⟨Inv.new,fun p hp=>by simp at hp⟩ (by simp; omega) (by simp; omega)
 have hc:=h3.inv.cnt
 refine ⟨5000000,s.length+1,st,ld,names,data,ld.lost,h1,?_,equal_self (by omega) (by omega),clone_self (by rw [h3.inv.len]; omega),h3.inv.len,sorted_eq h3.inv.srt (by rw [h3.inv.len]; omega) (by rw [h3.inv.len]; omega),h3.inv.dlen,fun i x d hx hd=>h3.inv.get hx hd,by omega⟩
 unfold ref3_Saved
 rw [show ref3_Parts 5000000 s 10=_ from Parts_eq 10 s (by omega) (by omega),call_some]
 show call (ref3_Saved_L0 5000000 (spl 10 s) 5000000 [] [] [] [] [] 0) _=_
 rw [show ref3_Saved_L0 5000000 (spl 10 s) 5000000 [] [] [] [] [] 0=_ from h2]
 rfl
end Go.Vm.ArzG.L
