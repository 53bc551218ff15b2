/-
  token,reading: plain law 2: skipping,runs,numbers,references,words.
-/
import Derived.Test.YtldmbabgcdmjcaaGreatDoorObjXa
namespace Go.Vm.ObjM.Lx
/-! ## Letters,digits,words -/
def lt (x:Int):Bool:=bif (bif (decide ((97:Int)≤x)) then (decide (x≤(122:Int))) else false) then true else (bif (decide ((65:Int)≤x)) then (decide (x≤(90:Int))) else false)
def dg (x:Int):Bool:=bif (decide ((48:Int)≤x)) then (decide (x≤(57:Int))) else false
theorem yO (F:Nat) (x:Int):nH F x=some (lt x):=rfl
theorem dA7 (F:Nat) (x:Int):jA F x=some (dg x):=rfl
theorem aL1 (F:Nat) (x:Int):jN F x=some (lt x):=by
 unfold jN lt
 rw [aY]
 congr 1
 cases h:(bif (decide ((97:Int)≤x)) then (decide (x≤(122:Int))) else false) <;> cases h2:(bif (decide ((65:Int)≤x)) then (decide (x≤(90:Int))) else false) <;> simp_all
theorem dE1 (F:Nat) (x:Int):gY F x=some (dg x):=rfl
theorem cO8 {x:Int} (h:dg x=true):lt x=false∧x≠42∧x≠95∧x≠46:=by
 simp [dg] at h
 refine ⟨?_,by omega,by omega,by omega⟩
 simp [lt]; omega
/-- The bytes a word may have. -/
def okb (c:UInt8):Bool:=lt c.toNat || dg c.toNat || (c.toNat:Int) == 42 || (c.toNat:Int) == 95 || (c.toNat:Int) == 46
theorem aZ4 (F:Nat) (s:List UInt8) (hs:s.length≤maxLen):∀ (m i n:Nat),1≤i→i+m=s.length→m < n →
  dY F s n (i:Int)=some (if (s.drop i).all okb then .go () else .esc ([],5)):=by
 have hmax:maxLen=9223372036854775807:=rfl
 intro m
 induction m with
 | zero =>
  intro i n h1 hi hn
  obtain ⟨n,rfl⟩:∃ q,n=q+1:=⟨n - 1,by omega⟩
  obtain rfl:i=s.length:=by omega
  rw [dY,fG,cond_false,List.drop_length]; rfl
 | succ m ih =>
  intro i n h1 hi hn
  obtain ⟨n,rfl⟩:∃ q,n=q+1:=⟨n - 1,by omega⟩
  have hlt:i < s.length:=by omega
  have hi0:((i:Int) == 0)=false:=by simp; omega
  rw [dY,dec_lt hlt,cond_true,eD hlt,bM,yO,aA,hi0,bS (by omega),ih (i+1) n (by omega) (by omega) (by omega),bX hlt,List.all_cons]
  generalize s.getD i 0=c
  rw [dA7]
  unfold okb
  cases h1:lt c.toNat <;> cases h2:dg c.toNat <;> cases h3:(c.toNat:Int) == 42 <;> cases h4:(c.toNat:Int) == 95 <;> cases h5:(c.toNat:Int) == 46 <;>
   simp [aA,aY,bne,h3,h4,h5]
theorem wV (F:Nat) (s:List UInt8) (hs:s.length≤maxLen):∀ (m i n:Nat),i+m=s.length→m < n →
  eY F s n (i:Int)=some (if (s.drop i).all okb then .go () else .esc 5):=by
 have hmax:maxLen=9223372036854775807:=rfl
 intro m
 induction m with
 | zero =>
  intro i n hi hn
  obtain ⟨n,rfl⟩:∃ q,n=q+1:=⟨n - 1,by omega⟩
  obtain rfl:i=s.length:=by omega
  rw [eY,fG,cond_false,List.drop_length]; rfl
 | succ m ih =>
  intro i n hi hn
  obtain ⟨n,rfl⟩:∃ q,n=q+1:=⟨n - 1,by omega⟩
  have hlt:i < s.length:=by omega
  have hp:0≤(i:Int)∧(i:Int) < s.length:=⟨by omega,by omega⟩
  rw [eY,dec_lt hlt,cond_true,eD hlt,bM,aL1,aA,bS (by omega),ih (i+1) n (by omega) (by omega),bX hlt,List.all_cons,aL (fun _=>hp)]
  generalize s.getD i 0=c
  rw [dE1]
  unfold okb
  cases h1:lt c.toNat <;> cases h2:dg c.toNat <;> cases h3:(c.toNat:Int) == 42 <;> cases h4:(c.toNat:Int) == 95 <;> cases h5:(c.toNat:Int) == 46 <;>
   simp [aA,aY,chk,bne,h3,h4,h5,hlt]
/-- What a word is: not empty,no digit ahead,only its bytes. -/
def qF (s:List UInt8):Bool := !(s == []) && !(dg (s.getD 0 0).toNat) && s.all okb
theorem bC7 {F:Nat} {s:List UInt8} (hs:s.length≤maxLen) (hF:s.length < F) :
  kU F s=some (if qF s then (if s.length > 31 then ([],2) else (s,0)) else ([],5)):=by
 have hmax:maxLen=9223372036854775807:=rfl
 unfold kU eX
 cases s with
 | nil=>obtain ⟨F,rfl⟩:∃ q,F=q+1:=⟨F - 1,by simp at hF; omega⟩; rfl
 | cons c t =>
  have hlen:(c :: t).length=t.length+1:=rfl
  obtain ⟨G,rfl⟩:∃ q,F=q+1:=⟨F - 1,by omega⟩
  have h0:dY (G+1) (c :: t) (G+1) (0:Int)=some (if qF (c :: t) then .go () else .esc ([],5)):=by
   have:=aZ4 (G+1) (c :: t) hs t.length 1 G (by omega) (by rw [hlen]; omega) (by omega)
   rw [dY,decide_eq_true (show (0:Int) < ((c :: t).length:Int) by omega),cond_true,aL ⟨by omega,by omega⟩,show (0:Int).toNat=0 from rfl,yO,aA,show IntKind.i64.wrap ((0:Int)+1)=((1:Nat):Int) from rfl,this]
   have hd:dg c.toNat=true→lt c.toNat=false∧((c.toNat:Int) == 42)=false∧((c.toNat:Int) == 95)=false∧((c.toNat:Int) == 46)=false:=fun h=>by
    obtain ⟨h1,h2,h3,h4⟩:=cO8 h
    exact ⟨h1,by simpa using h2,by simpa using h3,by simpa using h4⟩
   simp only [List.getD_cons_zero,List.drop_succ_cons,List.drop_zero,qF,List.all_cons,dA7,bne,aY,okb]
   revert hd
   generalize ((c.toNat:Int) == 42)=C,((c.toNat:Int) == 95)=D,((c.toNat:Int) == 46)=E,lt c.toNat=A,dg c.toNat=B,t.all okb=X
   cases A <;> cases B <;> cases C <;> cases D <;> cases E <;> simp [aA]
  rw [h0]
  cases qF (c :: t)
  ·rfl
  ·rw [if_pos rfl,aW,show ((c :: t) == [])=false from rfl,cond_false,if_pos rfl]
   by_cases h:(c :: t).length > 31
   ·rw [if_pos h,decide_eq_true (by omega)]; rfl
   ·rw [if_neg h,decide_eq_false (by omega)]; rfl
theorem wL {F:Nat} {s:List UInt8} (hs:s.length≤maxLen) (hF:s.length < F) :
  gX F s=some (if s.all okb then (if s.length > 31 then 2 else 0) else 5):=by
 have hmax:maxLen=9223372036854775807:=rfl
 unfold gX
 rw [show (0:Int)=((0:Nat):Int) from rfl,wV F s hs s.length 0 F (by omega) (by omega),List.drop_zero]
 cases s.all okb
 ·rfl
 ·rw [if_pos rfl,aW,if_pos rfl]
  by_cases h:s.length > 31
  ·rw [if_pos h,decide_eq_true (by omega)]; rfl
  ·rw [if_neg h,decide_eq_false (by omega)]; rfl
/-! ## Skipping -/
def nR:Bool→List UInt8→List UInt8
 | _,[]=>[]
 | true,c :: t=>bif ((c.toNat:Int) == 10) then nR false t else nR true t
 | false,c :: t=>bif ((c.toNat:Int) == 37) then nR true t else bif white c then nR false t else c :: t
theorem aW2 (l:List UInt8):∀ b,nR b l <:+ l:=by
 induction l with
 | nil=>intro b; cases b <;> exact List.suffix_refl _
 | cons c t ih =>
  intro b
  cases b
  ·rw [nR]
   cases (c.toNat:Int) == 37
   ·cases white c
    ·exact List.suffix_refl _
    ·exact (ih false).trans (List.suffix_cons _ _)
   ·exact (ih true).trans (List.suffix_cons _ _)
  ·rw [nR]
   cases (c.toNat:Int) == 10
   ·exact (ih true).trans (List.suffix_cons _ _)
   ·exact (ih false).trans (List.suffix_cons _ _)
/-- The place of a rest of s. -/
def lW (s l:List UInt8):Nat:=s.length - l.length
theorem yN {s l:List UInt8} (h:l <:+ s):s.drop (lW s l)=l:=(List.suffix_iff_eq_drop.1 h).symm
theorem pR {s:List UInt8} {i:Nat} (h:i≤s.length):lW s (s.drop i)=i:=by unfold lW; rw [List.length_drop]; omega
theorem bD6 {s l:List UInt8} {i:Nat} (h:l <:+ s.drop i):l <:+ s:=h.trans (List.drop_suffix i s)
theorem cU6 (F:Nat) (s:List UInt8) (hs:s.length≤10000):∀ (m i n:Nat) (b:Bool),i+m=s.length→m < n →
  dA (fQ F s n b (i:Int)) (fun e=>some e) (fun v4=>some (s,v4))=some (s,((lW s (nR b (s.drop i)):Nat):Int)):=by
 intro m
 induction m with
 | zero =>
  intro i n b hi hn
  obtain ⟨n,rfl⟩:∃ q,n=q+1:=⟨n - 1,by omega⟩
  obtain rfl:i=s.length:=by omega
  rw [fQ,fG,cond_false,List.drop_length,aW]
  cases b <;> simp [nR,lW]
 | succ m ih =>
  intro i n b hi hn
  obtain ⟨n,rfl⟩:∃ q,n=q+1:=⟨n - 1,by omega⟩
  have hlt:i < s.length:=by omega
  have hpi:=pR (s:=s) (i:=i) (by omega)
  rw [fQ,dec_lt hlt,cond_true,eD hlt,bM,bS (by omega)]
  rw [bX hlt] at hpi ⊢
  generalize s.getD i 0=c at *
  have hih:=fun b=>ih (i+1) n b (by omega) (by omega)
  rw [nR.eq_def]
  cases b
  ·simp only [cond_false,bO4,aA]
   cases h1:(c.toNat:Int) == 37
   ·cases h2:white c
    ·simp only [cond_false,cond_true,Bool.not_false,bV]
     rw [hpi]
    ·simp only [cond_false,cond_true,Bool.not_true,aW]
     exact hih false
   ·simp only [cond_true,aW]
    exact hih true
  ·simp only [cond_true,aW,bne]
   cases h1:(c.toNat:Int) == 10
   ·exact hih true
   ·exact hih false
theorem cP9 {F:Nat} {s:List UInt8} (hs:s.length≤10000) (hF:20000≤F) {i:Nat} (hi:i≤s.length) :
  mD F s (i:Int)=some (s,((lW s (nR false (s.drop i)):Nat):Int)):=cU6 F s hs (s.length - i) i F false (by omega) (by omega)
def nlR:List UInt8→List UInt8
 | []=>[]
 | c :: t=>bif ((c.toNat:Int) == 10) then c :: t else nlR t
theorem bY5 (l:List UInt8):nlR l <:+ l:=by
 induction l with
 | nil=>exact List.suffix_refl _
 | cons c t ih =>
  rw [nlR]
  cases (c.toNat:Int) == 10
  ·exact ih.trans (List.suffix_cons _ _)
  ·exact List.suffix_refl _
theorem cP8 (l:List UInt8):nR true l=nR false (nlR l):=by
 induction l with
 | nil=>rfl
 | cons c t ih =>
  rw [nR,nlR]
  cases h:(c.toNat:Int) == 10
  ·exact ih
  ·have hc:(c.toNat:Int)=10:=by simpa using h
   simp only [cond_true]
   rw [nR]
   have h2:((c.toNat:Int) == 37)=false:=by rw [hc]; rfl
   have h3:white c=true:=by unfold white; rw [hc]; rfl
   rw [h2,h3]; rfl
theorem cA6 (F:Nat) (s:List UInt8) (hs:s.length≤10000):∀ (m i n:Nat),i+m=s.length→m < n →
  lF F s n (i:Int)=some ((lW s (nlR (s.drop i)):Nat):Int):=by
 intro m
 induction m with
 | zero =>
  intro i n hi hn
  obtain ⟨n,rfl⟩:∃ q,n=q+1:=⟨n - 1,by omega⟩
  obtain rfl:i=s.length:=by omega
  rw [lF,fG,aL (by simp),aY,List.drop_length]
  rfl
 | succ m ih =>
  intro i n hi hn
  obtain ⟨n,rfl⟩:∃ q,n=q+1:=⟨n - 1,by omega⟩
  have hlt:i < s.length:=by omega
  have hpi:=pR (s:=s) (i:=i) (by omega)
  rw [lF,dec_lt hlt,aL (fun _=>⟨by omega,by omega⟩),cond_true,aY,bM,bS (by omega)]
  rw [bX hlt] at hpi ⊢
  generalize s.getD i 0=c at *
  rw [nlR,bne]
  cases h1:(c.toNat:Int) == 10
  ·exact ih (i+1) n (by omega) (by omega)
  ·simp only [Bool.not_true,cond_false,cond_true]
   rw [hpi]
theorem cA1 {F:Nat} (s:List UInt8) (hs:s.length≤10000) (hF:20000≤F):∀ (m i n:Nat),i+m=s.length→m < n →
  kI F s n (i:Int)=some ((lW s (nR false (s.drop i)):Nat):Int):=by
 intro m
 induction m using Nat.strongRecOn with
 | _ m ih =>
  intro i n hi hn
  obtain ⟨n,rfl⟩:∃ q,n=q+1:=⟨n - 1,by omega⟩
  by_cases hm:m=0
  ·obtain rfl:i=s.length:=by omega
   rw [kI,fG,aL (by simp)]
   rw [List.drop_length]
   rw [show (bif (((false:Bool) == true) && true) then mU F ((s.getD ((s.length:Nat):Int).toNat 0).toNat:Int) else some false)=some false from rfl,aA,aL (by simp),aY]
   rfl
  ·have hlt:i < s.length:=by omega
   have hpi:=pR (s:=s) (i:=i) (by omega)
   rw [kI,dec_lt hlt,aL (fun _=>⟨by omega,by omega⟩),bM]
   rw [show (bif ((true == true) && true) then mU F ((s.getD i 0).toNat:Int) else some false)=some (white (s.getD i 0)) from rfl,aA,aL (fun _=>⟨by omega,by omega⟩),cond_true,aY,bS (by omega),eD hlt]
   have h2:=cA6 F s hs m i F hi (by omega)
   rw [bX hlt] at hpi h2 ⊢
   generalize s.getD i 0=c at *
   rw [nR]
   cases h1:(c.toNat:Int) == 37
   ·cases hw:white c
    ·simp only [cond_false]
     rw [hpi]
    ·simp only [cond_false,cond_true]
     exact ih (m - 1) (by omega) (i+1) n (by omega) (by omega)
   ·have hc:((c.toNat:Int) == 10)=false:=by
     have:(c.toNat:Int)=37:=by simpa using h1
     rw [this]; rfl
    rw [nlR,hc,cond_false] at h2
    have hsuf:nlR (s.drop (i+1)) <:+ s:=bD6 (bY5 _)
    have hl:=(bY5 (s.drop (i+1))).length_le
    rw [List.length_drop] at hl
    have hp:lW s (nlR (s.drop (i+1)))=s.length - (nlR (s.drop (i+1))).length:=rfl
    have hz:(bif (bif white c then true else true) then (call (lF F s F (i:Int)) fun v3=>kI F s n v3) else some (i:Int))=some ((lW s (nR true (s.drop (i+1))):Nat):Int):=by
     rw [show (bif white c then true else true)=true by cases white c <;> rfl,cond_true,h2,aA,ih (s.length - lW s (nlR (s.drop (i+1)))) (by omega) (lW s (nlR (s.drop (i+1)))) n (by omega) (by omega),yN hsuf,cP8]
    simp only [cond_true]
    exact hz
/-! ## Runs -/
def run (l:List UInt8):List UInt8:=l.takeWhile reg
theorem aL7 (l:List UInt8):l.take (run l).length=run l:=(List.prefix_iff_eq_take.1 (List.takeWhile_prefix reg)).symm
theorem bQ1 (l:List UInt8):(run l).length≤l.length:=(List.takeWhile_prefix (p:=reg)).length_le
theorem aL6 (c:UInt8) (t:List UInt8):run (c :: t)=bif reg c then c :: run t else []:=by
 unfold run
 rw [List.takeWhile_cons]
 cases reg c <;> rfl
theorem cW8 (F:Nat) (s:List UInt8) (hs:s.length≤10000):∀ (m i n:Nat),i+m=s.length→m < n →
  gI F s n (i:Int)=some ((i+(run (s.drop i)).length:Nat):Int):=by
 intro m
 induction m with
 | zero =>
  intro i n hi hn
  obtain ⟨n,rfl⟩:∃ q,n=q+1:=⟨n - 1,by omega⟩
  obtain rfl:i=s.length:=by omega
  rw [gI,fG,aL (by simp),List.drop_length]
  rfl
 | succ m ih =>
  intro i n hi hn
  obtain ⟨n,rfl⟩:∃ q,n=q+1:=⟨n - 1,by omega⟩
  have hlt:i < s.length:=by omega
  rw [gI,dec_lt hlt,aL (fun _=>⟨by omega,by omega⟩),bM,bS (by omega),ih (i+1) n (by omega) (by omega),bX hlt,aL6]
  generalize s.getD i 0=c at *
  rw [show (bif ((true == true) && true) then fV F (c.toNat:Int) else some false)=some (reg c) from dB5 F c,aA,cond_true]
  cases reg c
  ·rfl
  ·simp only [cond_true,List.length_cons]
   rw [Nat.add_assoc,Nat.add_comm 1]
theorem bZ4 {F:Nat} (hF:10≤F) (s:List UInt8) (hs:s.length≤10000):∀ (m i n:Nat),i+m=s.length→m < n →
  mI F s n (i:Int)=some ((i+(run (s.drop i)).length:Nat):Int):=by
 intro m
 induction m with
 | zero =>
  intro i n hi hn
  obtain ⟨n,rfl⟩:∃ q,n=q+1:=⟨n - 1,by omega⟩
  obtain rfl:i=s.length:=by omega
  rw [mI,fG,aL (by simp),List.drop_length]
  rfl
 | succ m ih =>
  intro i n hi hn
  obtain ⟨n,rfl⟩:∃ q,n=q+1:=⟨n - 1,by omega⟩
  have hlt:i < s.length:=by omega
  rw [mI,dec_lt hlt,aL (fun _=>⟨by omega,by omega⟩),bM,bS (by omega),ih (i+1) n (by omega) (by omega),bX hlt,aL6]
  generalize s.getD i 0=c at *
  rw [show (bif ((true == true) && true) then oL F (c.toNat:Int) else some false)=some (reg c) from cN4 hF c,aA,cond_true]
  cases reg c
  ·rfl
  ·simp only [cond_true,List.length_cons]
   rw [Nat.add_assoc,Nat.add_comm 1]
theorem run_eq {F:Nat} {s:List UInt8} (hs:s.length≤10000) (hF:20000≤F) {i:Nat} (hi:i≤s.length) :
  gD F s (i:Int)=some (run (s.drop i),s,((i+(run (s.drop i)).length:Nat):Int)):=by
 unfold gD
 have hl:=bQ1 (s.drop i)
 rw [List.length_drop] at hl
 rw [cW8 F s hs (s.length - i) i F (by omega) (by omega),aA,aL ⟨by omega,by omega,by omega⟩,bM,bM,Nat.add_sub_cancel_left,aL7]
end Go.Vm.ObjM.Lx
