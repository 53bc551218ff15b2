/-
  archive: what Put makes of an archive and what Get then answers,in plain words.
-/
import Derived.Test.YtflaiaeofndgmaaGreatDoorArWd
import Derived.Test.YtflaiaeofndgmaaGreatDoorArWf
import Derived.Test.YtflaiaeofndgmaaGreatDoorArLa
import Derived.Test.YtflaiaeofndgmaaGreatDoorArTc
import Derived.Test.YtflaiaeofndgmaaGreatDoorArTd
namespace Go.Vm.ArzG.L
open Go.Vm.ArzM
theorem rowAt_put (st:Ar) (k:Int) (l:List (List UInt8)) (k':Int):(st.putRow k l).rowAt k'=if k'=k then l else st.rowAt k':=by
 unfold Ar.rowAt
 rw [putRow_keys]
 by_cases h:k'=k
 ·subst h
  rw [if_pos rfl]
  cases hp:pos (putK (st.P.map (·.1)) k') k' with
  | none =>
   have h1:=pos_none.1 hp
   exfalso
   apply h1
   have h2:=putI_lt (st.P.map (·.1)) k'
   unfold putK
   cases hq:pos (st.P.map (·.1)) k' with
   | none=>simp
   | some i=>exact List.mem_of_getElem? (pos_get hq)
  | some i =>
   have e:i=putI (st.P.map (·.1)) k':=by
    unfold putK at hp
    unfold putI
    cases hq:pos (st.P.map (·.1)) k' with
    | none =>
     rw [hq] at hp
     have h1:∀ (ks:List Int),pos ks k'=none→pos (ks++[k']) k'=some ks.length:=by
      intro ks
      induction ks with
      | nil=>intro _; simp [pos]
      | cons a r ih =>
       intro hn
       rw [pos] at hn
       by_cases ha:a=k'
       ·rw [if_pos ha] at hn; cases hn
       ·rw [if_neg ha,Option.map_eq_none_iff] at hn
        rw [List.cons_append,pos,if_neg ha,ih hn]
        rfl
     rw [h1 _ hq] at hp
     cases hp
     rfl
    | some j =>
     rw [hq] at hp
     rw [hq] at hp
     cases hp
     rfl
   obtain ⟨h2,_⟩:=putRow_len st k' l
   rw [← e] at h2
   have h3:=putRow_get (List.getElem?_eq_getElem h2)
   rcases h3 with ⟨_,h4⟩ | ⟨h4,_⟩
   ·simp [List.getElem?_eq_getElem h2,h4]
   ·exact absurd e h4
 ·rw [if_neg h]
  have h1:∀ (ks:List Int),pos (putK ks k) k'=pos ks k':=by
   intro ks
   unfold putK
   cases pos ks k with
   | some _=>rfl
   | none =>
    show pos (ks++[k]) k'=_
    induction ks with
    | nil=>simp only [List.nil_append,pos,if_neg (fun e:k=k'=>h e.symm)]; rfl
    | cons a r ih=>rw [List.cons_append,pos,pos,ih]
  rw [h1]
  cases hp:pos (st.P.map (·.1)) k' with
  | none=>rfl
  | some i =>
   have hi:i < st.P.length:=by simpa using pos_lt hp
   obtain ⟨_,h2⟩:=putRow_len st k l
   have h3:=putRow_get (List.getElem?_eq_getElem (Nat.lt_of_lt_of_le hi h2))
   rcases h3 with ⟨h4,h5⟩ | ⟨_,h5⟩
   ·exfalso
    have h6:=pos_get hp
    have h7:((st.putRow k l).P.map (·.1))[i]? = some k:=by
     rw [List.getElem?_map,List.getElem?_eq_getElem (Nat.lt_of_lt_of_le hi h2),h5]
     rfl
    rw [putRow_keys] at h7
    have h8:=pos_get (show pos (putK (st.P.map (·.1)) k) k'=some i by rw [h1]; exact hp)
    rw [h7] at h8
    exact h (by simpa using h8.symm)
   ·simp [List.getElem?_eq_getElem (Nat.lt_of_lt_of_le hi h2),h5]
def Grows (st st':Ar):Prop:=∀ (k:Int) (j:Nat) (p:List UInt8),(st.rowAt k)[j]? = some p→(st'.rowAt k)[j]? = some p
theorem Grows.refl (st:Ar):Grows st st:=fun _ _ _ h=>h
theorem Grows.trans {a b c:Ar} (h:Grows a b) (h2:Grows b c):Grows a c:=fun k j p q=>h2 k j p (h k j p q)
theorem keep_ok (st:Ar) (k i:Int) (s:List UInt8) (hi:i = -1∨∃ j:Nat,i=(j:Int)∧(st.rowAt k)[j]? = some s) :
  Grows st (keepTo st k i s).2∧0≤(keepTo st k i s).1∧((keepTo st k i s).2.rowAt k)[(keepTo st k i s).1.toNat]? = some s∧∀ k',((keepTo st k i s).2.rowAt k').length≤(st.rowAt k').length+1:=by
 unfold keepTo
 rcases hi with rfl | ⟨j,rfl,hj⟩
 ·rw [if_pos (by decide)]
  refine ⟨fun k' j p h=>?_,by simp,?_,fun k'=>?_⟩
  ·show ((st.putRow k (st.rowAt k++[s])).rowAt k')[j]? = some p
   rw [rowAt_put]
   split
   ·rename_i e
    subst e
    rw [List.getElem?_append_left (List.getElem?_eq_some_iff.1 h).1]
    exact h
   ·exact h
  ·show ((st.putRow k (st.rowAt k++[s])).rowAt k)[(((st.rowAt k).length:Nat):Int).toNat]? = some s
   rw [rowAt_put,if_pos rfl,Int.toNat_natCast]
   simp
  ·show ((st.putRow k (st.rowAt k++[s])).rowAt k').length≤_
   rw [rowAt_put]
   split
   ·rename_i e
    subst e
    simp
   ·omega
 ·rw [if_neg (by omega)]
  exact ⟨Grows.refl st,by simp,by simpa using hj,fun k'=>by simp⟩
/-- The pieces at an entry's places. -/
def Pcs (st:Ar):List Int→List Int→List (List UInt8)→Prop
 | [],[],[]=>True
 | k :: kr,a :: ar,p :: pr=>0≤a∧(st.rowAt k)[a.toNat]? = some p∧Pcs st kr ar pr
 | _,_,_=>False
theorem Pcs.mono {st st':Ar} (g:Grows st st'):∀ {ks ia:List Int} {ps:List (List UInt8)},Pcs st ks ia ps→Pcs st' ks ia ps
 | [],[],[],_=>trivial
 | k :: kr,a :: ar,p :: pr,h=>⟨h.1,g _ _ _ h.2.1,Pcs.mono g h.2.2⟩
 | [],[],_ :: _,h=>h.elim
 | [],_ :: _,_,h=>by unfold Pcs at h; exact h.elim
 | _ :: _,[],_,h=>by unfold Pcs at h; exact h.elim
 | _ :: _,_ :: _,[],h=>by unfold Pcs at h; exact h.elim
theorem Pcs.snoc {st:Ar} {k a:Int} {p:List UInt8} (h0:0≤a) (hp:(st.rowAt k)[a.toNat]? = some p):∀ {ks ia:List Int} {ps:List (List UInt8)},Pcs st ks ia ps→Pcs st (ks++[k]) (ia++[a]) (ps++[p])
 | [],[],[],_=>⟨h0,hp,trivial⟩
 | k :: kr,a :: ar,p :: pr,h=>⟨h.1,h.2.1,Pcs.snoc h0 hp h.2.2⟩
 | [],[],_ :: _,h=>h.elim
 | [],_ :: _,_,h=>by unfold Pcs at h; exact h.elim
 | _ :: _,[],_,h=>by unfold Pcs at h; exact h.elim
 | _ :: _,_ :: _,[],h=>by unfold Pcs at h; exact h.elim
theorem Pcs.get {st:Ar}:∀ {ks ia:List Int} {ps:List (List UInt8)} {acc:List UInt8},Pcs st ks ia ps→acc.length+ps.flatten.length≤4294967296→getLoop st ks ia acc=some (acc++ps.flatten)
 | [],[],[],acc,_,_=>by rw [getLoop]; simp
 | k :: kr,a :: ar,p :: pr,acc,h,hl=>by
  rw [List.flatten_cons,List.length_append] at hl
  rw [getLoop,if_pos h.1,h.2.1,Option.bind_some,if_pos (by omega),Pcs.get h.2.2 (by rw [List.length_append]; omega)]
  simp
 | [],[],_ :: _,acc,h,_=>h.elim
 | [],_ :: _,_,acc,h,_=>by unfold Pcs at h; exact h.elim
 | _ :: _,[],_,acc,h,_=>by unfold Pcs at h; exact h.elim
 | _ :: _,_ :: _,[],acc,h,_=>by unfold Pcs at h; exact h.elim
theorem putLoop_ok {F:Nat} (hF:5000000≤F):∀ {l:List Int} {s:List UInt8} {st:Ar} {ks ia:List Int} {ps:List (List UInt8)} {B:Nat},Cut s l→s.length≤16384→(∀ k,(st.rowAt k).length≤B)→B+l.length≤1000000→Pcs st ks ia ps→ks.length+l.length≤1000000→ia.length=ks.length →
  ∃ st' ks' ia' ps',putLoop F l s st ks ia=some (st',ks',ia')∧Grows st st'∧Pcs st' ks' ia' ps'∧ps'.flatten=ps.flatten++s∧ks'.length=ks.length+l.length∧∀ k,(st'.rowAt k).length≤B+l.length
 | [],s,st,ks,ia,ps,B,hc,hs,hB,hB2,hp,hk,hi=>by
  cases hc
  exact ⟨st,ks,ia,ps,rfl,Grows.refl st,hp,by simp,by simp,fun k=>by simpa using hB k⟩
 | _ :: l,s,st,ks,ia,ps,B,hc,hs,hB,hB2,hp,hk,hi=>by
  cases hc with
  | @cons _ n _ h1 h2 h =>
   simp only [List.length_cons] at hB2 hk
   have hsum:=Sum_eq (F:=F) (s.take n) (by rw [List.length_take]; omega) (by rw [List.length_take]; omega)
   generalize nI (crc (s.take n))=k at hsum
   have hr:=hB k
   obtain ⟨i,hi1,hi2⟩:=index_str (F:=F) (st.rowAt k) (s.take n) (by omega) (by omega)
   obtain ⟨g1,g2,g3,g4⟩:=keep_ok st k i (s.take n) hi2
   obtain ⟨st',ks',ia',ps',q1,q2,q3,q4,q5,q6⟩:=putLoop_ok hF (B:=B+1) h (by rw [List.length_drop]; omega) (fun k'=>Nat.le_trans (g4 k') (Nat.add_le_add_right (hB k') 1)) (by omega) (Pcs.snoc g2 g3 (hp.mono g1)) (by rw [List.length_append]; simp; omega) (by simp [hi])
   refine ⟨st',ks',ia',ps',?_,g1.trans q2,q3,?_,?_,fun k'=>?_⟩
   ·rw [putLoop,if_pos ⟨by omega,by rw [Int.toNat_natCast]; omega,by omega,by omega,by omega⟩,Int.toNat_natCast,hsum,Option.bind_some,hi1,Option.bind_some,if_pos (by omega)]
    exact q1
   ·rw [q4,List.flatten_append]
    simp
   ·rw [q5]
    simp
    omega
   ·have:=q6 k'
    simp
    omega
/-- What an archive is like that holds data under names. -/
structure Inv (st:Ar) (names data:List (List UInt8)):Prop where
 keys:st.N.map (·.1)=names
 srt:Srt st.O
 mem:∀ x,x∈st.O↔x∈names
 len:st.O.length=names.length
 dlen:data.length=names.length
 nodup:names.Nodup
 rows:∀ k,(st.rowAt k).length≤600 * names.length
 ent:∀ (i:Nat) n d,st.N[i]? = some n→data[i]? = some d→∃ ps,Pcs st n.2.1 n.2.2.1 ps∧ps.flatten=d∧n.2.1.length≤1000000∧d.length≤16384
 cnt:names.length≤64
theorem Inv.new:Inv ⟨[],[],[]⟩ [] [] :=
 ⟨rfl,List.Pairwise.nil,fun x=>Iff.rfl,rfl,rfl,List.nodup_nil,fun k=>by simp [Ar.rowAt,pos],fun i n d h=>by simp at h,by simp⟩
theorem Inv.get {st:Ar} {names data:List (List UInt8)} (h:Inv st names data) {i:Nat} {x d:List UInt8} (hx:names[i]? = some x) (hd:data[i]? = some d):getF st x=some (d,0):=by
 have hk:(st.N.map (·.1))[i]? = some x:=by rw [h.keys]; exact hx
 have hp:pos (st.N.map (·.1)) x=some i:=by rw [h.keys]; exact pos_nodup h.nodup hx
 rw [List.getElem?_map,Option.map_eq_some_iff] at hk
 obtain ⟨n,hn,_⟩:=hk
 obtain ⟨ps,h1,h2,h3,h4⟩:=h.ent i n d hn hd
 unfold getF
 rw [hp]
 simp only [hn,Option.bind_some]
 rw [if_pos h3,Pcs.get h1 (by rw [h2]; simp; omega),h2]
 rfl
theorem insert_mem {l:List (List UInt8)} {x y:List UInt8} (n:Nat):y∈l.take n++x :: l.drop n↔y=x∨y∈l:=by
 have h:y∈l↔y∈l.take n∨y∈l.drop n:=by
  rw [← List.mem_append,List.take_append_drop]
 rw [List.mem_append,List.mem_cons,h]
 constructor
 ·rintro (h | h | h)
  ·exact .inr (.inl h)
  ·exact .inl h
  ·exact .inr (.inr h)
 ·rintro (h | h | h)
  ·exact .inr (.inl h)
  ·exact .inl h
  ·exact .inr (.inr h)
/-- Whether data go under a name. -/
def fits (names:List (List UInt8)) (name s:List UInt8):Bool:=decide (s.length≤16384) && nameOk name && !(names.contains name) && !(names.length == 64)
theorem put_no {F:Nat} (hF:5000000≤F) {st:Ar} {names data:List (List UInt8)} (h:Inv st names data) {name s:List UInt8} (hn:name.length≤4000000) (hf:fits names name s=false):∃ e,e≠0∧putF F st name s=some (e,st):=by
 unfold putF
 by_cases hs:s.length≤16384
 case neg =>
  rw [cuts_big (by omega),Option.bind_some,if_pos (by decide)]
  exact ⟨2,by decide,rfl⟩
 obtain ⟨l,h1,_,_⟩:=cuts_eq (F:=F) (by omega) hs
 rw [h1,Option.bind_some,if_neg (by simp),plain_eq name hn (by omega),Option.bind_some]
 cases hno:nameOk name with
 | false=>exact ⟨6,by decide,if_pos rfl⟩
 | true =>
  rw [if_neg (by decide),bs_eq h.srt (by rw [h.len]; have:=h.cnt; omega) (by rw [h.len]; have:=h.cnt; omega),Option.bind_some]
  cases hc:st.O.contains name with
  | true=>exact ⟨7,by decide,if_pos rfl⟩
  | false =>
   rw [if_neg (by simp)]
   have hc2:names.contains name=false:=by
    cases hq:names.contains name with
    | false=>rfl
    | true =>
     have:=(h.mem name).2 (List.contains_iff_mem.1 hq)
     rw [List.contains_iff_mem.2 this] at hc
     cases hc
   unfold fits at hf
   rw [decide_eq_true hs,hno,hc2] at hf
   have:names.length=64:=by simpa using hf
   rw [if_pos (by rw [h.len]; exact this)]
   exact ⟨16,by decide,rfl⟩
theorem put_yes {F:Nat} (hF:5000000≤F) {st:Ar} {names data:List (List UInt8)} (h:Inv st names data) {name s:List UInt8} (hn:name.length≤4000000) (hf:fits names name s=true):∃ st',putF F st name s=some (0,st')∧Inv st' (names++[name]) (data++[s]):=by
 unfold fits at hf
 simp only [Bool.and_eq_true,decide_eq_true_eq,Bool.not_eq_true',beq_eq_false_iff_ne] at hf
 obtain ⟨⟨⟨hs,hno⟩,hc⟩,h64⟩:=hf
 have hcnt:=h.cnt
 obtain ⟨l,h1,h2,h3⟩:=cuts_eq (F:=F) (by omega) hs
 have hO:st.O.contains name=false:=by
  cases hq:st.O.contains name with
  | false=>rfl
  | true =>
   have:=(h.mem name).1 (List.contains_iff_mem.1 hq)
   rw [List.contains_iff_mem.2 this] at hc
   cases hc
 have hnm:name ∉ names:=fun hm=>by rw [List.contains_iff_mem.2 hm] at hc; cases hc
 obtain ⟨st',ks',ia',ps',q1,q2,q3,q4,q5,q6⟩:=putLoop_ok hF (B:=600 * names.length) (ks:=[]) (ia:=[]) (ps:=[]) h2 hs h.rows (by omega) trivial (by simp; omega) rfl
 obtain ⟨e1,e2⟩:=putLoop_same q1
 have e1:st'.O=st.O:=e1
 have e2:st'.N=st.N:=e2
 have hle:=objAt_le name st.O
 refine ⟨{ st'.putN name ks' ia' (s.length:Int) with O:=st'.O.take (objAt st.O name)++name :: st'.O.drop (objAt st.O name) },?_,?_⟩
 ·unfold putF
  rw [h1,Option.bind_some,if_neg (by simp),plain_eq name hn (by omega),hno,Option.bind_some,if_neg (by decide),bs_eq h.srt (by rw [h.len]; omega) (by rw [h.len]; omega),Option.bind_some,hO,if_neg (by simp),if_neg (by rw [h.len]; exact h64),q1,Option.bind_some]
  rw [if_pos ⟨by rw [e2,h.keys]; exact pos_none.2 hnm,by simp,by rw [e1]; simpa using hle,by rw [e1,h.len]; omega,by show l.length≤_; omega,by omega⟩]
  rw [Int.toNat_natCast]
 ·have hrow:∀ k,Ar.rowAt { st'.putN name ks' ia' (s.length:Int) with O:=st'.O.take (objAt st.O name)++name :: st'.O.drop (objAt st.O name) } k=st'.rowAt k:=fun _=>rfl
  have hg:Grows st' { st'.putN name ks' ia' (s.length:Int) with O:=st'.O.take (objAt st.O name)++name :: st'.O.drop (objAt st.O name) }:=fun _ _ _ q=>q
  have hN:(st'.putN name ks' ia' (s.length:Int)).N=st.N++[(name,ks',ia',(s.length:Int))]:=by unfold Ar.putN; rw [e2]
  refine ⟨?_,?_,fun x=>?_,?_,?_,?_,fun k=>?_,fun i n d hi hd=>?_,?_⟩
  ·show (st'.putN name ks' ia' (s.length:Int)).N.map (·.1)=_
   rw [hN,List.map_append,h.keys]
   rfl
  ·show Srt (st'.O.take (objAt st.O name)++name :: st'.O.drop (objAt st.O name))
   rw [e1]
   exact h.srt.ins hO
  ·show x∈st'.O.take (objAt st.O name)++name :: st'.O.drop (objAt st.O name)↔_
   rw [e1,insert_mem,h.mem,List.mem_append,List.mem_singleton]
   exact Or.comm
  ·show (st'.O.take (objAt st.O name)++name :: st'.O.drop (objAt st.O name)).length=_
   rw [e1,List.length_append,List.length_append,List.length_cons,List.length_take,List.length_drop,← h.len]
   simp
   omega
  ·rw [List.length_append,List.length_append,h.dlen]
   rfl
  ·rw [List.nodup_append]
   refine ⟨h.nodup,by simp,fun a ha b hb e=>?_⟩
   have:b=name:=by simpa using hb
   subst this
   exact hnm (e ▸ ha)
  ·rw [hrow,List.length_append]
   have:=q6 k
   simp
   omega
  ·have hi:(st.N++[(name,ks',ia',(s.length:Int))])[i]? = some n:=by rw [← hN]; exact hi
   have hNl:st.N.length=names.length:=by rw [← h.keys,List.length_map]
   rcases Nat.lt_or_ge i st.N.length with hlt | hge
   ·rw [List.getElem?_append_left hlt] at hi
    rw [List.getElem?_append_left (by rw [h.dlen]; omega)] at hd
    obtain ⟨ps,w1,w2,w3,w4⟩:=h.ent i n d hi hd
    exact ⟨ps,(w1.mono q2).mono hg,w2,w3,w4⟩
   ·have hi2:i=st.N.length:=by
     have:=(List.getElem?_eq_some_iff.1 hi).1
     simp at this
     omega
    subst hi2
    rw [List.getElem?_append_right (Nat.le_refl _)] at hi
    rw [List.getElem?_append_right (by rw [h.dlen]; omega)] at hd
    have hz:st.N.length - data.length=0:=by rw [h.dlen]; omega
    rw [Nat.sub_self] at hi
    rw [hz] at hd
    simp at hi hd
    subst hi hd
    exact ⟨ps',q3.mono hg,by rw [q4]; simp,by show ks'.length≤_; rw [q5]; simp; omega,hs⟩
  ·rw [List.length_append]
   simp
   omega
end Go.Vm.ArzG.L
