/-
  archive: a line of a saved archive,in both texts.
-/
import Derived.Test.YtflaiaeofndgmaaGreatDoorArWj
import Derived.Test.YtflaiaeofndgmaaGreatDoorArTb
import Derived.Test.YtflaiaeofndgmaaGreatDoorArTe
import Derived.Test.YtflaiaeofndgmaaGreatDoorArTg
namespace Go.Vm.ArzG.L
open Go.Vm.ArzM
def numI (s:List UInt8):Int:=if tidyOk s=true then ((valD 0 s:Nat):Int) else -1
theorem num_cases (s:List UInt8):(numF s=(numI s,true)∧0≤numI s)∨((numF s).2=false∧numI s = -1):=by
 unfold numI
 cases h:tidyOk s with
 | true =>
  obtain ⟨h1,h2,h3⟩:=numF_yes h
  refine .inl ⟨?_,by rw [if_pos rfl]; omega⟩
  unfold numF
  rw [h1,if_pos rfl]
  simp only [h3,decide_eq_true h2,decide_eq_true (show (0:Int)≤((valD 0 s:Nat):Int) by omega)]
  simp
 | false =>
  refine .inr ⟨?_,by simp⟩
  unfold numF
  match hA:Lib.atoiAll s with
  | .ok v =>
   show (decide (0≤v) && decide (s.length < 10) && decide (Lib.itoa v=s))=false
   by_cases h0:0≤v
   ·by_cases h1:s.length < 10
    ·by_cases h2:Lib.itoa v=s
     ·rw [itoa_tidy h0 h1 h2] at h
      cases h
     ·rw [decide_eq_false h2,Bool.and_false]
    ·rw [decide_eq_false h1,Bool.and_false,Bool.false_and]
   ·rw [decide_eq_false h0,Bool.false_and,Bool.false_and]
  | Lib.NumEnd.syntax=>rfl
  | .range=>rfl
theorem tidyI {F:Nat} (s:List UInt8) (hF:20≤F):ref3_Tidy F s=some (numI s):=tidy_eq s hF
def nums (ld:Ld):List Int:=ld.B.map (·.1)
def pcs (ld:Ld):List (List UInt8):=ld.B.map (·.2)
/-- The place of a word's number. -/
def idx (ld:Ld) (x:List UInt8):Int:=if 0≤numI x then atI (nums ld) (numI x) else -1
/-- The piece that a word names. -/
def wi (ld:Ld) (x:List UInt8):Option (List UInt8):=if 0≤numI x then ld.at (numI x) else none
theorem idx_eq {F:Nat} (hF:5000000≤F) (ld:Ld) (hB:ld.B.length≤1000000) (x:List UInt8):(call (ref3_Tidy F x) fun y2=>bif (decide (y2 ≥ (0:Int))) then call (ref3_at F (nums ld) y2) fun y3=>some y3 else some (-1:Int))=some (idx ld x):=by
 rw [tidyI x (by omega),call_some]
 unfold idx
 by_cases h:0≤numI x
 ·rw [decide_eq_true (show numI x ≥ 0 from h),cond_true,if_pos h,at_eq _ _ (by unfold nums; simp; omega) (by unfold nums; simp; omega),call_some]
 ·rw [decide_eq_false (show ¬ numI x ≥ 0 from h),cond_false,if_neg h]
theorem idx_wi (ld:Ld) (hp:∀ p∈ld.B,p.2.length≤16384) (x:List UInt8):(idx ld x = -1∧wi ld x=none)∨∃ (i:Nat) (p:List UInt8),idx ld x=(i:Int)∧(pcs ld)[i]? = some p∧wi ld x=some p∧p.length≤16384:=by
 unfold idx wi Ld.at atI
 by_cases h:0≤numI x
 ·rw [if_pos h,if_pos h]
  show (_∧_)∨_
  unfold nums
  cases hq:pos (ld.B.map (·.1)) (numI x) with
  | none=>exact .inl ⟨rfl,rfl⟩
  | some i =>
   have hi:i < ld.B.length:=by simpa using pos_lt hq
   refine .inr ⟨i,(ld.B[i]).2,rfl,?_,?_,hp _ (List.getElem_mem hi)⟩
   ·unfold pcs
    rw [List.getElem?_map,List.getElem?_eq_getElem hi]
    rfl
   ·simp [List.getElem?_eq_getElem hi]
 ·rw [if_neg h,if_neg h]
  exact .inl ⟨rfl,rfl⟩
theorem nameLoop_cons (ld:Ld) (x:List UInt8) (r:List (List UInt8)) (acc:List UInt8) (hx:x.length≤1000000000):nameLoop ld (x :: r) acc=match wi ld x with
  | none=>some none
  | some p=>if acc.length≤16384 then (if acc.length+p.length≤4294967296 then nameLoop ld r (acc++p) else none) else nameLoop ld r acc:=by
 rw [nameLoop,if_pos hx]
 unfold wi
 rcases num_cases x with ⟨h1,h2⟩ | ⟨h1,h2⟩
 ·rw [h1,if_neg (by simp),if_pos h2]
  rfl
 ·rw [if_pos h1,h2,if_neg (by decide)]
theorem word_L2 {F:Nat} (hF:5000000≤F) (ld:Ld) (hB:ld.B.length≤1000000) (hp:∀ p∈ld.B,p.2.length≤16384) (ws:List (List UInt8)) (h2:2≤ws.length) (hwl:ws.length≤4000000) (hw:∀ y∈ws,y.length≤1000000000) :
  ∀ (xs:List (List UInt8)) (j n:Nat),(ws.drop 2).drop j=xs→j+xs.length=(ws.drop 2).length→xs.length < n →
   (∀ acc:List UInt8,acc.length≤32768→∃ r a,nameLoop ld xs acc=some r∧ref3_Saved_L2 F ws (nums ld) (pcs ld) n acc true (j:Int)=some (a,r.isSome)∧∀ x,r=some x→a=x∧a.length≤32768) ∧
   (∀ acc:List UInt8,acc.length≤32768→ref3_Saved_L2 F ws (nums ld) (pcs ld) n acc false (j:Int)=some (acc,false))
 | [],j,n,hd,hl,hn=>by
  obtain ⟨n,rfl⟩:∃ q,n=q+1:=⟨n - 1,by omega⟩
  have hj:j=(ws.drop 2).length:=by simpa using hl
  have hws:((ws.drop (2:Int).toNat).take ((ws.length:Int).toNat - (2:Int).toNat))=ws.drop 2:=by
   show (ws.drop 2).take (ws.length - 2)=_
   rw [List.take_of_length_le (by rw [List.length_drop]; omega)]
  have key:∀ (acc:List UInt8) (b:Bool),ref3_Saved_L2 F ws (nums ld) (pcs ld) (n+1) acc b (j:Int)=some (acc,b):=by
   intro acc b
   rw [ref3_Saved_L2]
   simp only [hws,lett_eq]
   rw [decide_eq_false (by omega),cond_false]
  exact ⟨fun acc ha=>⟨some acc,acc,rfl,key acc true,fun x hx=>by cases hx; exact ⟨rfl,ha⟩⟩,fun acc _=>key acc false⟩
 | x :: xs,j,n,hd,hl,hn=>by
  obtain ⟨n,rfl⟩:∃ q,n=q+1:=⟨n - 1,by omega⟩
  obtain ⟨q1,q2,q3⟩:=dropA hd
  have hws:((ws.drop (2:Int).toNat).take ((ws.length:Int).toNat - (2:Int).toNat))=ws.drop 2:=by
   show (ws.drop 2).take (ws.length - 2)=_
   rw [List.take_of_length_le (by rw [List.length_drop]; omega)]
  obtain ⟨ih1,ih2⟩:=word_L2 hF ld hB hp ws h2 hwl hw xs (j+1) n q3 (by simp at hl ⊢; omega) (by simp at hn; omega)
  have hx:x.length≤1000000000:=hw x (List.mem_of_mem_drop (List.mem_of_getElem? q2))
  have hjl:(ws.drop 2).length≤4000000:=by rw [List.length_drop]; omega
  have key:∀ (acc:List UInt8) (b:Bool),ref3_Saved_L2 F ws (nums ld) (pcs ld) (n+1) acc b (j:Int) =
    call (bif (bif (bif b then (decide (idx ld x ≥ (0:Int))) else false) then (decide ((acc.length:Int)≤(16384:Int))) else false) then
     chk (0≤idx ld x∧idx ld x < (pcs ld).length) <| chk (acc.length+((pcs ld).getD (idx ld x).toNat []).length≤9223372036854775807) <| some ((acc++((pcs ld).getD (idx ld x).toNat [])),(bif b then (decide (idx ld x ≥ (0:Int))) else false))
     else some (acc,(bif b then (decide (idx ld x ≥ (0:Int))) else false))) fun v=>ref3_Saved_L2 F ws (nums ld) (pcs ld) n v.1 v.2 ((j+1:Nat):Int):=by
   intro acc b
   rw [ref3_Saved_L2]
   simp only [hws,lett_eq]
   rw [dec_lt q1,cond_true,chk_in q1,Int.toNat_natCast,getD_of q2,idx_eq hF ld hB,Go.Vm.wrap_succ (by omega)]
   rfl
  refine ⟨fun acc ha=>?_,fun acc ha=>?_⟩
  ·rw [key,nameLoop_cons ld x xs acc hx]
   rcases idx_wi ld hp x with ⟨e1,e2⟩ | ⟨i,p,e1,e2,e3,e4⟩
   ·rw [e1,e2]
    exact ⟨none,acc,rfl,ih2 acc ha,fun x hx=>by cases hx⟩
   ·rw [e1,e3,decide_eq_true (show ((i:Nat):Int) ≥ 0 by omega),cond_true,cond_true]
    by_cases h16:acc.length≤16384
    ·obtain ⟨r,a,w1,w2,w3⟩:=ih1 (acc++p) (by rw [List.length_append]; omega)
     refine ⟨r,a,?_,?_,w3⟩
     ·simp only [if_pos h16]
      rw [if_pos (by omega)]
      exact w1
     ·rw [decide_eq_true (show (acc.length:Int)≤16384 by omega),cond_true,chk_in (lt_of_get e2),Int.toNat_natCast,getD_of e2,chk_pos (by omega),call_some]
      exact w2
    ·obtain ⟨r,a,w1,w2,w3⟩:=ih1 acc ha
     refine ⟨r,a,?_,?_,w3⟩
     ·simp only [if_neg h16]
      exact w1
     ·rw [decide_eq_false (show ¬ (acc.length:Int)≤16384 by omega),cond_false,call_some]
      exact w2
  ·rw [key,cond_false,cond_false,cond_false,call_some]
   exact ih2 acc ha
/-- What the reference makes of a name's words. -/
def refName (F:Nat) (y1 v9 v10 v11:List (List UInt8)) (v1:List Int) (v2:List (List UInt8)):Option (List Int×List (List UInt8)×List (List UInt8)×List (List UInt8)×List (List UInt8)) :=
 chk (0≤(2:Int)∧(2:Int)≤(y1.length:Int)∧(y1.length:Int)≤(y1.length:Int)) <|
 call (ref3_Saved_L2 F y1 v1 v2 F [] true (0:Int))
  fun (v15,v16) =>
 chk ((((bif (!v16) then true else (decide ((v15.length:Int) > (16384:Int)))) == false) && true)=true→0≤(1:Int)∧(1:Int) < y1.length) <|
 call ((bif (((bif (!v16) then true else (decide ((v15.length:Int) > (16384:Int)))) == false) && true) then ref3_IsName F (y1.getD (1:Int).toNat []) else some false)) fun y10 =>
 lett ((bif (bif (!v16) then true else (decide ((v15.length:Int) > (16384:Int)))) then true else (!y10))) fun z13 =>
 chk (((z13 == false) && true)=true→0≤(1:Int)∧(1:Int) < y1.length) <|
 call ((bif ((z13 == false) && true) then ref3_HasText F v9 (y1.getD (1:Int).toNat []) else some false)) fun y11 =>
 bif (bif (bif z13 then true else y11) then true else ((v9.length:Int) == (64:Int))) then
  chk (0≤(1:Int)∧(1:Int) < y1.length) <|
  chk (v11.length+([(y1.getD (1:Int).toNat [])]).length≤4294967296) <|
  some (v1,v2,(v11++([(y1.getD (1:Int).toNat [])])),v9,v10)
 else
  chk (0≤(1:Int)∧(1:Int) < y1.length) <|
  chk (v9.length+([(y1.getD (1:Int).toNat [])]).length≤4294967296) <|
  chk (v10.length+([v15]).length≤4294967296) <|
  some (v1,v2,v11,(v9++([(y1.getD (1:Int).toNat [])])),(v10++([v15])))
theorem refName_eq {F:Nat} (hF:5000000≤F) {ws names data lost pc:List (List UInt8)} {nu:List Int} {w1 a:List UInt8} {g:Bool} (h2:2≤ws.length) (hw1:ws[1]? = some w1) (hl1:w1.length≤4000000) (hn:names.length≤1000000) (hd:data.length≤1000000) (hlo:lost.length≤1000000)
  (hS:ref3_Saved_L2 F ws nu pc F [] true 0=some (a,g)):refName F ws names data lost nu pc=some (if (g && fits names w1 a)=true then (nu,pc,lost,names++[w1],data++[a]) else (nu,pc,lost++[w1],names,data)):=by
 have h1:ws.getD (1:Int).toNat []=w1:=getD_of hw1
 have hin:0≤(1:Int)∧(1:Int) < (ws.length:Int):=⟨by decide,by omega⟩
 unfold refName
 rw [chk_pos ⟨by decide,by omega,Int.le_refl _⟩,hS,call_some]
 simp only [h1]
 rw [chk_pos (fun _=>hin),isName_eq w1 hl1 (by omega),hasText_eq names w1 (by omega) (by omega)]
 have h64:((names.length:Int) == 64)=(names.length == 64):=by
  rw [Bool.eq_iff_iff,beq_iff_eq,beq_iff_eq]
  omega
 have e1:chk (0≤(1:Int)∧(1:Int) < (ws.length:Int)) (chk (lost.length+[w1].length≤4294967296) (some (nu,pc,lost++[w1],names,data)))=some (nu,pc,lost++[w1],names,data):=by
  rw [chk_pos hin,chk_pos (by simp; omega)]
 have e2:chk (0≤(1:Int)∧(1:Int) < (ws.length:Int)) (chk (names.length+[w1].length≤4294967296) (chk (data.length+[a].length≤4294967296) (some (nu,pc,lost,names++[w1],data++[a]))))=some (nu,pc,lost,names++[w1],data++[a]):=by
  rw [chk_pos hin,chk_pos (by simp; omega),chk_pos (by simp; omega)]
 rw [e1,e2,h64]
 unfold fits
 cases g with
 | false=>simp [call_some,lett_eq,chk]
 | true =>
  by_cases hb:a.length≤16384
  ·rw [decide_eq_false (show ¬ (a.length:Int) > 16384 by omega),decide_eq_true hb]
   cases nameOk w1 with
   | false=>simp [call_some,lett_eq,chk]
   | true =>
    cases hq:names.contains w1 with
    | true=>simp [call_some,lett_eq,chk]; omega
    | false=>cases hq2:(names.length == 64) <;> simp [call_some,lett_eq,chk] <;> omega
  ·rw [decide_eq_true (show (a.length:Int) > 16384 by omega),decide_eq_false hb]
   simp [call_some,lett_eq,chk]
theorem name_step {F:Nat} (hF:5000000≤F) {st:Ar} {ld:Ld} {names data ws:List (List UInt8)} (h:Inv st names data) (hB:ld.B.length≤1000000) (hp:∀ p∈ld.B,p.2.length≤16384) (h2:2≤ws.length) (hwl:ws.length≤4000000) (hw:∀ y∈ws,y.length≤4000000) (hlo:ld.lost.length≤999999) :
  ∃ st' ld' names' data',nameF F st ld ws=some (st',ld')∧refName F ws names data ld.lost (nums ld) (pcs ld)=some (nums ld',pcs ld',ld'.lost,names',data')∧Inv st' names' data'∧ld'.B=ld.B∧ld'.lost.length≤ld.lost.length+1:=by
 have hw1:ws[1]? = some (ws.getD 1 []):=by
  rw [List.getElem?_eq_getElem (by omega),List.getD_eq_getElem?_getD,List.getElem?_eq_getElem (by omega)]
  rfl
 have hl1:(ws.getD 1 []).length≤4000000:=hw _ (List.mem_of_getElem? hw1)
 obtain ⟨ih,_⟩:=word_L2 hF ld hB hp ws h2 hwl (fun y hy=>Nat.le_trans (hw y hy) (by decide)) (ws.drop 2) 0 F rfl (by simp) (by rw [List.length_drop]; omega)
 obtain ⟨r,a,q1,q2,q3⟩:=ih [] (by simp)
 have hR:=refName_eq hF (names:=names) (data:=data) (lost:=ld.lost) h2 hw1 hl1 (by have:=h.cnt; omega) (by rw [h.dlen]; have:=h.cnt; omega) (by omega) q2
 unfold nameF
 rw [if_pos ⟨by omega,by omega⟩,q1,Option.bind_some]
 cases r with
 | none =>
  refine ⟨st,ld.lose (ws.getD 1 []),names,data,rfl,?_,h,rfl,by simp [Ld.lose]⟩
  rw [hR]
  rfl
 | some x =>
  obtain ⟨rfl,ha⟩:=q3 x rfl
  cases hf:fits names (ws.getD 1 []) a with
  | true =>
   obtain ⟨st',p1,p2⟩:=put_yes hF h hl1 hf
   refine ⟨st',ld,_,_,?_,?_,p2,rfl,Nat.le_succ _⟩
   ·simp only [p1,Option.bind_some]
    rfl
   ·rw [hR,hf]
    rfl
  | false =>
   obtain ⟨e,p1,p2⟩:=put_no hF h hl1 hf
   refine ⟨st,ld.lose (ws.getD 1 []),names,data,?_,?_,h,rfl,by simp [Ld.lose]⟩
   ·simp only [p2,Option.bind_some,if_neg p1]
   ·rw [hR,hf]
    rfl
/-- What the reference makes of a piece's words. -/
def refPiece (F:Nat) (y1:List (List UInt8)) (v12:List Int) (v13:List (List UInt8)):Option (List Int×List (List UInt8)) :=
 chk (0≤(2:Int)∧(2:Int) < y1.length) <|
 call (ref3_unletter F (y1.getD (2:Int).toNat [])) fun y7 =>
 chk (0≤(1:Int)∧(1:Int) < y1.length) <|
 call (ref3_Tidy F (y1.getD (1:Int).toNat [])) fun y8 =>
 lett ((bif (bif (decide (y8 ≥ (0:Int))) then (y7.2 == (0:Int)) else false) then (decide ((y7.1.length:Int)≤(16384:Int))) else false)) fun z11 =>
 call ((bif ((z11 == true) && true) then ref3_at F v12 y8 else some 0)) fun y9 =>
 bif (bif z11 then (decide (y9 < (0:Int))) else false) then
  chk (v12.length+([y8]).length≤4294967296) <|
  chk (v13.length+([y7.1]).length≤4294967296) <|
  some ((v12++([y8])),(v13++([y7.1])))
 else
  some (v12,v13)
theorem piece_step {F:Nat} (hF:5000000≤F) {ld:Ld} {ws:List (List UInt8)} (hB:ld.B.length≤999999) (hp:∀ p∈ld.B,p.2.length≤16384) (h3:ws.length=3) (hw:∀ y∈ws,y.length≤2200000) :
  ∃ te,filter_Decode F [⟨4,0⟩] (ws.getD 2 [])=some te∧refPiece F ws (nums ld) (pcs ld)=some (nums (pieceTo ld (ws.getD 1 []) te.1 te.2),pcs (pieceTo ld (ws.getD 1 []) te.1 te.2))∧(∀ p∈(pieceTo ld (ws.getD 1 []) te.1 te.2).B,p.2.length≤16384) ∧
   (pieceTo ld (ws.getD 1 []) te.1 te.2).B.length≤ld.B.length+1∧(pieceTo ld (ws.getD 1 []) te.1 te.2).lost=ld.lost:=by
 have hw2:(ws.getD 2 []).length≤2200000:=by
  rw [List.getD_eq_getElem?_getD,List.getElem?_eq_getElem (show 2 < ws.length by omega)]
  exact hw _ (List.getElem_mem _)
 obtain ⟨te,d1,d2,d3⟩:=decode_eq (F:=F) (ws.getD 2 []) (by omega)
 obtain ⟨u,u1,u2,u3⟩:=unletter_piece (F:=F) (ws.getD 2 []) hw2 (by omega)
 have hnl:(nums ld).length=ld.B.length:=by simp [nums]
 have hpl:(pcs ld).length=ld.B.length:=by simp [pcs]
 refine ⟨te,d1,?_⟩
 have hR:refPiece F ws (nums ld) (pcs ld)=(lett ((bif (bif (decide (numI (ws.getD 1 []) ≥ (0:Int))) then (u.2 == (0:Int)) else false) then (decide ((u.1.length:Int)≤(16384:Int))) else false)) fun z11 =>
   call ((bif ((z11 == true) && true) then some (atI (nums ld) (numI (ws.getD 1 []))) else some 0)) fun y9 =>
   bif (bif z11 then (decide (y9 < (0:Int))) else false) then some (nums ld++[numI (ws.getD 1 [])],pcs ld++[u.1]) else some (nums ld,pcs ld)):=by
  unfold refPiece
  have i2:ws.getD (2:Int).toNat []=ws.getD 2 []:=rfl
  have i1:ws.getD (1:Int).toNat []=ws.getD 1 []:=rfl
  rw [chk_pos ⟨by decide,by omega⟩,i2,u1,call_some,chk_pos ⟨by decide,by omega⟩,i1,tidyI _ (by omega),call_some,at_eq _ _ (by omega) (by omega),chk_pos (show (nums ld).length+[numI (ws.getD 1 [])].length≤4294967296 by simp; omega),chk_pos (show (pcs ld).length+[u.1].length≤4294967296 by simp; omega)]
 rw [hR,lett_eq]
 have keep:pieceTo ld (ws.getD 1 []) te.1 te.2=ld→some (nums ld,pcs ld)=some (nums (pieceTo ld (ws.getD 1 []) te.1 te.2),pcs (pieceTo ld (ws.getD 1 []) te.1 te.2))∧(∀ p∈(pieceTo ld (ws.getD 1 []) te.1 te.2).B,p.2.length≤16384) ∧
   (pieceTo ld (ws.getD 1 []) te.1 te.2).B.length≤ld.B.length+1∧(pieceTo ld (ws.getD 1 []) te.1 te.2).lost=ld.lost:=by
  intro e
  rw [e]
  exact ⟨rfl,hp,Nat.le_succ _,rfl⟩
 rcases num_cases (ws.getD 1 []) with ⟨n1,n2⟩ | ⟨n1,n2⟩
 case inr =>
  rw [n2]
  exact keep (if_neg fun h=>by rw [n1] at h; cases h.1)
 rw [decide_eq_true (show numI (ws.getD 1 []) ≥ 0 from n2),cond_true]
 cases hpc:pieceOf (ws.getD 2 []) with
 | none =>
  have d4:=d3 hpc
  have hz:(bif (u.2 == (0:Int)) then (decide ((u.1.length:Int)≤(16384:Int))) else false)=false:=by
   rcases u3 hpc with h | h
   ·rw [beq_eq_false_iff_ne.2 h]
    rfl
   ·rw [decide_eq_false (show ¬ (u.1.length:Int)≤16384 by omega)]
    cases (u.2 == 0) <;> rfl
  rw [hz]
  exact keep (if_neg fun h=>d4 h.2.1)
 | some l =>
  have d4:=d2 l hpc
  obtain ⟨u4,u5⟩:=u2 l hpc
  subst d4 u4
  rw [show ((l,(0:Int)).2 == 0)=true from rfl,cond_true,decide_eq_true (show ((l,(0:Int)).1.length:Int)≤16384 by show (l.length:Int)≤_; omega),show ((true == true) && true)=true from rfl,cond_true,call_some,cond_true]
  unfold atI
  cases hq:pos (nums ld) (numI (ws.getD 1 [])) with
  | some i =>
   show (bif decide (((i:Nat):Int) < 0) then _ else _)=_∧_
   rw [decide_eq_false (by omega),cond_false]
   refine keep (if_neg fun h=>?_)
   have h3:=h.2.2
   rw [n1] at h3
   unfold nums at hq
   rw [hq] at h3
   cases h3
  | none =>
   show (bif decide ((-1:Int) < 0) then _ else _)=_∧_
   rw [show decide ((-1:Int) < 0)=true from rfl,cond_true]
   have e:pieceTo ld (ws.getD 1 []) l 0={ ld with B:=ld.B++[(numI (ws.getD 1 []),l)] }:=by
    unfold pieceTo
    rw [n1,if_pos ⟨rfl,rfl,by unfold nums at hq; exact hq⟩]
   rw [e]
   refine ⟨by simp [nums,pcs],fun p hpm=>?_,by simp,rfl⟩
   rcases List.mem_append.1 hpm with h | h
   ·exact hp p h
   ·have:p=(numI (ws.getD 1 []),l):=by simpa using h
    subst this
    exact u5
end Go.Vm.ArzG.L
