/-
  TICKETS,PLAIN: how a printed token begins and ends.
-/
import Derived.Test.YtldmbabgcdmjcaaGreatDoorObjLb
namespace Go.Vm.ObjM
/-- What stands beside a word only behind a blank. -/
def cI4 (x:Int):Bool := !((x == 32 || x == 9) || x == 10) && !(decide (Lib.indexByte ([40,41,60,62,91,93,47,64,37]:List UInt8) x.toNat.toUInt8 ≥ 0))
theorem aQ8 (F:Nat) (x:Int):fV F x=some (cI4 x):=by
 unfold fV mP lS cI4
 rw [aK7,aK7,aA]
 cases ((x == 32 || x == 9) || x == 10) <;> rfl
def reg (c:UInt8):Bool:=cI4 (c.toNat:Int)
/-- How what is printed of a token begins and ends. -/
def Shp (k:Int) (x:List UInt8×Int):Prop:=x.2=0→x.1≠[]∧reg (x.1.getD 0 0)=(k == 1 || k == 5)∧reg (x.1.getD (x.1.length - 1) 0)=((k == 1 || k == 2) || (k == 4 || k == 5))∧x.1.length≤3000000000
theorem vP {k:Int} {s:List UInt8} {e:Int} (h:e≠0):Shp k (s,e):=fun h'=>absurd h' h
theorem aZ8 {l:List UInt8} (h:l≠[]) (ha:∀ c∈l,reg c=true):reg (l.getD 0 0)=true∧reg (l.getD (l.length - 1) 0)=true:=by
 have hl:0 < l.length:=List.length_pos_iff.2 h
 constructor
 ·apply ha
  rw [List.getD_eq_getElem?_getD,List.getElem?_eq_getElem hl]
  exact List.getElem_mem hl
 ·apply ha
  have:l.length - 1 < l.length:=by omega
  rw [List.getD_eq_getElem?_getD,List.getElem?_eq_getElem this]
  exact List.getElem_mem this
theorem aV6:∀ n:Nat,n < 256→((dg (n:Int)=true→reg (UInt8.ofNat n)=true)∧(okb (UInt8.ofNat n)=true→reg (UInt8.ofNat n)=true)∧(vB (UInt8.ofNat n)=true→reg (UInt8.ofNat n)=true))∧reg (hx (n % 16))=true:=by decide +kernel
theorem bG5 (c:UInt8):((dg (c.toNat:Int)=true→reg c=true)∧(okb c=true→reg c=true)∧(vB c=true→reg c=true)):=by
 have:=(aV6 c.toNat c.toNat_lt).1
 simpa using this
theorem cP4 {k:Nat} (h:k < 16):reg (hx k)=true:=by
 have:=(aV6 k (by omega)).2
 rwa [Nat.mod_eq_of_lt h] at this
theorem cF4 (c d:UInt8) (h:d∈pW c):reg d=true:=by
 unfold pW at h
 cases hn:vB c with
 | true =>
  rw [hn] at h
  simp only [cond_true,List.mem_singleton] at h
  subst h
  exact (bG5 d).2.2 hn
 | false =>
  rw [hn] at h
  simp only [cond_false,List.mem_cons,List.not_mem_nil,or_false] at h
  have:=c.toNat_lt
  rcases h with rfl | rfl | rfl
  ·decide +kernel
  ·exact cP4 (by omega)
  ·exact cP4 (by omega)
theorem dE0 {s:List UInt8} (h:s≠[]) (hb:s.length≤1000):Shp 2 (47 :: s.flatMap pW,0):=by
 intro _
 have hne:s.flatMap pW≠[]:=by
  cases s with
  | nil=>exact absurd rfl h
  | cons c t =>
   rw [List.flatMap_cons]
   intro e
   have:=(List.append_eq_nil_iff.1 e).1
   unfold pW at this
   cases hn:vB c <;> rw [hn] at this <;> cases this
 have ha:∀ c∈s.flatMap pW,reg c=true:=by
  intro c hc
  obtain ⟨x,_,hx⟩:=List.mem_flatMap.1 hc
  exact cF4 x c hx
 have hl:0 < (s.flatMap pW).length:=List.length_pos_iff.2 hne
 have hfl:=kS yR s
 refine ⟨by simp,show reg 47=false by decide +kernel,?_,by simp only [List.length_cons]; omega⟩
 have:=(aZ8 hne ha).2
 simp only [List.length_cons,Nat.add_sub_cancel]
 obtain ⟨m,hm⟩:∃ m,(s.flatMap pW).length=m+1:=⟨_,(Nat.sub_add_cancel hl).symm⟩
 rw [hm] at this ⊢
 rw [List.getD_cons_succ]
 simpa using this
theorem dE5 (r:List UInt8) (hb:r.length≤100000):Shp 3 (40 :: (r++[41]),0):=by
 intro _
 refine ⟨by simp,show reg 40=false by decide +kernel,?_,by simp only [List.length_cons,List.length_append,List.length_nil]; omega⟩
 have:(40 :: (r++[41])).getD ((40 :: (r++[41])).length - 1) 0=41:=by
  simp [List.getD_eq_getElem?_getD]
 simp only
 rw [this]
 decide +kernel
theorem dE4 {s:List UInt8} (h:s≠[]) (ho:s.all okb=true) (hb:s.length≤1000):Shp 5 (s,0):=by
 intro _
 obtain ⟨h1,h2⟩:=aZ8 h fun c hc=>(bG5 c).2.1 (List.all_eq_true.1 ho c hc)
 exact ⟨h,h1,h2,by simp only; omega⟩
theorem cS0:Shp 6 ([91],0)∧Shp 7 ([93],0)∧Shp 8 ([60,60],0)∧Shp 9 ([62,62],0):=by
 refine ⟨fun _=>⟨by decide,?_,?_,by decide⟩,fun _=>⟨by decide,?_,?_,by decide⟩,fun _=>⟨by decide,?_,?_,by decide⟩,fun _=>⟨by decide,?_,?_,by decide⟩⟩ <;> decide +kernel
theorem dB4:∀ u:Nat,Lib.decDigits u≠[]∧∀ c∈Lib.decDigits u,reg c=true:=by
 intro u
 have dig:∀ k:Nat,k < 10→reg (UInt8.ofNat (48+k))=true:=by decide +kernel
 induction u using Nat.strongRecOn with
 | _ u ih =>
  rw [Lib.decDigits]
  split
  ·refine ⟨by simp,fun c hc=>?_⟩
   rw [List.mem_singleton.1 hc]
   exact dig u (by assumption)
  ·refine ⟨by simp,fun c hc=>?_⟩
   rcases List.mem_append.1 hc with h | h
   ·exact (ih (u / 10) (by omega)).2 c h
   ·rw [List.mem_singleton.1 h]
    exact dig (u % 10) (by omega)
theorem bH2 (v:Int):Lib.itoa v≠[]∧∀ c∈Lib.itoa v,reg c=true:=by
 unfold Lib.itoa
 split
 ·refine ⟨by simp,fun c hc=>?_⟩
  rcases List.mem_cons.1 hc with rfl | h
  ·decide +kernel
  ·exact (dB4 _).2 c h
 ·exact dB4 _
theorem bK1 {v:Int} (h : -2147483647≤v∧v≤2147483647):(Lib.itoa v).length≤2147483650:=by
 unfold Lib.itoa
 have h1:=qZ v.natAbs
 have h2:=qZ v.toNat
 split
 ·simp only [List.length_cons]; omega
 ·omega
theorem dD5 (v:Int) (h : -2147483647≤v∧v≤2147483647):Shp 1 (Lib.itoa v,0):=by
 intro _
 obtain ⟨h1,h2⟩:=bH2 v
 obtain ⟨h3,h4⟩:=aZ8 h1 h2
 have:=bK1 h
 exact ⟨h1,h3,h4,by simp only; omega⟩
theorem dD8 (v:Int) (h : -2147483647≤v∧v≤2147483647):Shp 4 ([64]++Lib.itoa v,0):=by
 intro _
 obtain ⟨h1,h2⟩:=bH2 v
 obtain ⟨_,h4⟩:=aZ8 h1 h2
 have:=bK1 h
 refine ⟨by simp,show reg 64=false by decide +kernel,?_,by simp only [List.length_append,List.length_singleton]; omega⟩
 have hl:0 < (Lib.itoa v).length:=List.length_pos_iff.2 h1
 obtain ⟨m,hm⟩:∃ m,(Lib.itoa v).length=m+1:=⟨_,(Nat.sub_add_cancel hl).symm⟩
 simp only [List.cons_append,List.nil_append,List.length_cons,Nat.add_sub_cancel]
 rw [hm] at h4 ⊢
 rw [List.getD_cons_succ]
 simpa using h4
end Go.Vm.ObjM
