/-
  token,plain law 2: names,texts; the law.
-/
import Derived.Test.YtldmbabgcdmjcaaGreatDoorObjLa
namespace Go.Vm.ObjM
abbrev aG7:List UInt8:=[48,49,50,51,52,53,54,55,56,57,97,98,99,100,101,102]
def hx (k:Nat):UInt8:=aG7.getD k 0
theorem bI8:∀ n,n < 256→((n:Nat):Int).fdiv (2 ^ (min (4:Int).toNat IntKind.u8.bits))=((n / 16:Nat):Int) ∧
  IntKind.u8.wrap ((BitVec.ofInt IntKind.u8.bits ((n:Nat):Int) &&& BitVec.ofInt IntKind.u8.bits (15:Int)).toNat:Int)=((n % 16:Nat):Int):=by decide +kernel
theorem dC6 (c:UInt8):(c.toNat:Int).fdiv (2 ^ (min (4:Int).toNat IntKind.u8.bits))=((c.toNat / 16:Nat):Int):=(bI8 _ c.toNat_lt).1
theorem dA9 (c:UInt8):IntKind.u8.wrap ((BitVec.ofInt IntKind.u8.bits (c.toNat:Int) &&& BitVec.ofInt IntKind.u8.bits (15:Int)).toNat:Int)=((c.toNat % 16:Nat):Int):=(bI8 _ c.toNat_lt).2
theorem bF2:∀ n,n < 256→IntKind.u8.wrap (((n:Nat):Int).tdiv 16)=((n / 16:Nat):Int)∧((n:Nat):Int).tmod 16=((n % 16:Nat):Int):=by decide +kernel
theorem dD3 (c:UInt8):IntKind.u8.wrap ((c.toNat:Int).tdiv 16)=((c.toNat / 16:Nat):Int):=(bF2 _ c.toNat_lt).1
theorem dC1 (c:UInt8):(c.toNat:Int).tmod 16=((c.toNat % 16:Nat):Int):=(bF2 _ c.toNat_lt).2
theorem ofc (c:UInt8):UInt8.ofNat (c.toNat:Int).toNat=c:=by rw [bM]; simp
theorem tdg (F:Nat) (b:Bool) (x:Int):(bif ((b == false) && true) then jA F x else some false)=some (bif b then false else dg x):=by cases b <;> rfl
theorem rdg (F:Nat) (b:Bool) (x:Int):(bif ((b == false) && ((true == true) && true)) then gY F x else some false)=some (bif b then false else dg x):=by cases b <;> rfl
theorem dD4 (F:Nat) (b:Bool) (x:Int):(bif ((b == false) && ((false == true) && true)) then gY F x else some false)=some false:=by cases b <;> rfl
theorem rlt (F:Nat) (x:Int):(bif ((true == true) && true) then jN F x else some false)=some (lt x):=aL1 F x
theorem dD6 (F:Nat) (x:Int):(bif ((false == true) && true) then jN F x else some false)=some false:=rfl
def vB (c:UInt8):Bool:=bif (bif (bif (bif lt c.toNat then true else (bif lt c.toNat then false else dg c.toNat)) then true else ((c.toNat:Int) == 95)) then true else ((c.toNat:Int) == 45)) then true else ((c.toNat:Int) == 46)
def pW (c:UInt8):List UInt8:=bif vB c then [c] else [35,hx (c.toNat / 16),hx (c.toNat % 16)]
theorem yR (c:UInt8):(pW c).length≤4:=by unfold pW; cases vB c <;> simp
def par (c:UInt8):Bool:=bif (bif ((c.toNat:Int) == 40) then true else ((c.toNat:Int) == 41)) then true else ((c.toNat:Int) == 92)
def ctl (c:UInt8):Bool:=bif (decide ((c.toNat:Int) < 32)) then true else (decide ((c.toNat:Int) > 125))
def rV (c:UInt8):List UInt8 :=
 bif (c.toNat:Int) == 10 then [92,110] else bif (c.toNat:Int) == 9 then [92,116] else bif par c then [92,c] else
 bif ctl c then [92,120,hx (c.toNat / 16),hx (c.toNat % 16)] else [c]
theorem bZ2 (c:UInt8):(rV c).length≤4:=by
 unfold rV
 cases (c.toNat:Int) == 10 <;> cases (c.toNat:Int) == 9 <;> cases par c <;> cases ctl c <;> simp
theorem bV5 {c:UInt8} (h:((c.toNat:Int) == 10)=true):rV c=[92,110]:=by unfold rV; rw [h]; rfl
theorem cJ9 {c:UInt8} (h:((c.toNat:Int) == 10)=false) (h2:((c.toNat:Int) == 9)=true):rV c=[92,116]:=by unfold rV; rw [h,h2]; rfl
theorem cP1 {c:UInt8} (h:((c.toNat:Int) == 10)=false) (h2:((c.toNat:Int) == 9)=false) (h3:par c=true):rV c=[92,c]:=by unfold rV; rw [h,h2,h3]; rfl
theorem cN6 {c:UInt8} (h:((c.toNat:Int) == 10)=false) (h2:((c.toNat:Int) == 9)=false) (h3:par c=false) (h4:ctl c=true):rV c=[92,120,hx (c.toNat / 16),hx (c.toNat % 16)]:=by unfold rV; rw [h,h2,h3,h4]; rfl
theorem cH4 {c:UInt8} (h:((c.toNat:Int) == 10)=false) (h2:((c.toNat:Int) == 9)=false) (h3:par c=false) (h4:ctl c=false):rV c=[c]:=by unfold rV; rw [h,h2,h3,h4]; rfl
theorem aY8 (F:Nat) (s:List UInt8) (hs:s.length≤100000):∀ (m i n:Nat) (acc:List UInt8),i+m=s.length→m < n→acc.length+4 * m≤1000000 →
  fB F s n acc (i:Int)=some (acc++(s.drop i).flatMap pW):=by
 intro m
 induction m with
 | zero =>
  intro i n acc hi hn _
  obtain ⟨n,rfl⟩:∃ q,n=q+1:=⟨n - 1,by omega⟩
  obtain rfl:i=s.length:=by omega
  rw [fB,fG,cond_false,List.drop_length]; simp
 | succ m ih =>
  intro i n acc hi hn ha
  obtain ⟨n,rfl⟩:∃ q,n=q+1:=⟨n - 1,by omega⟩
  have hlt:i < s.length:=by omega
  rw [fB,dec_lt hlt,cond_true,eD hlt,bM,bS (by omega),bX hlt,List.flatMap_cons]
  have hl:=yR (s.getD i 0)
  generalize s.getD i 0=c at *
  have hc:0≤(c.toNat:Int)∧(c.toNat:Int) < 256:=⟨by omega,by have:=c.toNat_lt; omega⟩
  simp only [yO,tdg,aA,aY,aN,dC6,dA9,bM]
  have hi2:=fun acc' (hq:acc'.length≤acc.length+4)=>ih (i+1) n acc' (by omega) (by omega) (by omega)
  change call (bif vB c then _ else _) _=_
  cases h:vB c
  ·have hh:∀ k,k < 16→0≤((aG7.getD k 0).toNat:Int)∧((aG7.getD k 0).toNat:Int) < 256:=fun k _=>⟨by omega,by have:=(aG7.getD k 0).toNat_lt; omega⟩
   rw [cond_false,aL ⟨by omega,by omega⟩,aL (by simp; omega),aA,eD (by simp; omega),aL (hh _ (by omega)),aL (by simp; omega),aA,
    eD (by simp; omega),aL (hh _ (by omega)),aL (by simp; omega),aA,aA,hi2 _ (by simp)]
   unfold pW
   rw [h]
   simp [hx]
  ·rw [cond_true,aL hc,aL (by simp; omega),aA,aA,hi2 _ (by simp)]
   unfold pW
   rw [h]
   simp
theorem aQ6 (F:Nat) (a:aD) (hk:(a.f0 == 2)=true) (hs:a.f2.length≤100000):∀ (m i n:Nat) (acc:List UInt8),i+m=a.f2.length→m < n→acc.length+4 * m≤1000000 →
  eU F a n acc (i:Int)=some (acc++(a.f2.drop i).flatMap pW):=by
 intro m
 induction m with
 | zero =>
  intro i n acc hi hn _
  obtain ⟨n,rfl⟩:∃ q,n=q+1:=⟨n - 1,by omega⟩
  obtain rfl:i=a.f2.length:=by omega
  rw [eU,fG,cond_false,List.drop_length]; simp
 | succ m ih =>
  intro i n acc hi hn ha
  obtain ⟨n,rfl⟩:∃ q,n=q+1:=⟨n - 1,by omega⟩
  have hlt:i < a.f2.length:=by omega
  rw [eU,dec_lt hlt,cond_true,eD hlt,bM,bS (by omega),bX hlt,List.flatMap_cons,hk]
  have hl:=yR (a.f2.getD i 0)
  generalize a.f2.getD i 0=c at *
  have hc:0≤(c.toNat:Int)∧(c.toNat:Int) < 256:=⟨by omega,by have:=c.toNat_lt; omega⟩
  have hh:∀ k,k < 16→0≤((aG7.getD k 0).toNat:Int)∧((aG7.getD k 0).toNat:Int) < 256:=fun k _=>⟨by omega,by have:=(aG7.getD k 0).toNat_lt; omega⟩
  simp only [rlt,rdg,aA,aY,dD3,dC1,bM]
  have hi2:=fun acc' (hq:acc'.length≤acc.length+4)=>ih (i+1) n acc' (by omega) (by omega) (by omega)
  have hr:=c.toNat_lt
  rw [eD (by simp; omega),eD (by simp; omega),aL (hh _ (by omega)),aL (hh _ (by omega))]
  change call (bif (bif true then vB c else false) then _ else _) _=_
  rw [cond_true]
  cases h:vB c
  ·rw [cond_false,cond_true,aL (by simp; omega),aL (by simp; omega),aA,hi2 _ (by simp)]
   unfold pW
   rw [h]
   simp [hx]
  ·rw [cond_true,aL hc,aL (by simp; omega),aA,hi2 _ (by simp)]
   unfold pW
   rw [h]
   simp
theorem aZ7 (F:Nat) (s:List UInt8) (hs:s.length≤100000):∀ (m i n:Nat) (acc:List UInt8),i+m=s.length→m < n→acc.length+4 * m≤1000000 →
  fA F s n acc (i:Int)=some (acc++(s.drop i).flatMap rV):=by
 intro m
 induction m with
 | zero =>
  intro i n acc hi hn _
  obtain ⟨n,rfl⟩:∃ q,n=q+1:=⟨n - 1,by omega⟩
  obtain rfl:i=s.length:=by omega
  rw [fA,fG,cond_false,List.drop_length]; simp
 | succ m ih =>
  intro i n acc hi hn ha
  obtain ⟨n,rfl⟩:∃ q,n=q+1:=⟨n - 1,by omega⟩
  have hlt:i < s.length:=by omega
  rw [fA,dec_lt hlt,cond_true,eD hlt,bM,bS (by omega),bX hlt,List.flatMap_cons]
  generalize s.getD i 0=c at *
  have hc:0≤(c.toNat:Int)∧(c.toNat:Int) < 256:=⟨by omega,by have:=c.toNat_lt; omega⟩
  have hr:=c.toNat_lt
  have hh:∀ k,k < 16→0≤((aG7.getD k 0).toNat:Int)∧((aG7.getD k 0).toNat:Int) < 256:=fun k _=>⟨by omega,by have:=(aG7.getD k 0).toNat_lt; omega⟩
  simp only [aY,aN,cO,dC6,dA9,bM]
  have hi2:=fun acc' (hq:acc'.length≤acc.length+4)=>ih (i+1) n acc' (by omega) (by omega) (by omega)
  change call (bif _ then _ else bif _ then _ else bif par c then _ else bif ctl c then _ else _) _=_
  cases h:(c.toNat:Int) == 10
  ·cases h2:(c.toNat:Int) == 9
   ·cases h3:par c
    ·cases h4:ctl c
     ·simp only [cond_false]
      rw [aL hc,aL (by simp; omega),aA,aA,hi2 _ (by simp)]
      rw [cH4 h h2 h3 h4]
      simp
     ·simp only [cond_false,cond_true]
      rw [aL (by simp; omega),aA,eD (by simp; omega),aL (hh _ (by omega)),aL (by simp; omega),aA,
       eD (by simp; omega),aL (hh _ (by omega)),aL (by simp; omega),aA,aA,hi2 _ (by simp)]
      rw [cN6 h h2 h3 h4]
      simp [hx]
    ·simp only [cond_false,cond_true]
     rw [aL ⟨by omega,by omega⟩,aL (by simp; omega),aA,aL hc,aL (by simp; omega),aA,aA,hi2 _ (by simp)]
     rw [cP1 h h2 h3]
     simp
   ·simp only [cond_false,cond_true]
    rw [aL (by simp; omega),aA,aA,hi2 _ (by simp)]
    rw [cJ9 h h2]
    simp
  ·simp only [cond_true]
   rw [aL (by simp; omega),aA,aA,hi2 _ (by simp)]
   rw [bV5 h]
   simp
theorem aP3 (F:Nat) (a:aD) (hk:(a.f0 == 2)=false) (hs:a.f2.length≤100000):∀ (m i n:Nat) (acc:List UInt8),i+m=a.f2.length→m < n→acc.length+4 * m≤1000000 →
  eU F a n acc (i:Int)=some (acc++(a.f2.drop i).flatMap rV):=by
 intro m
 induction m with
 | zero =>
  intro i n acc hi hn _
  obtain ⟨n,rfl⟩:∃ q,n=q+1:=⟨n - 1,by omega⟩
  obtain rfl:i=a.f2.length:=by omega
  rw [eU,fG,cond_false,List.drop_length]; simp
 | succ m ih =>
  intro i n acc hi hn ha
  obtain ⟨n,rfl⟩:∃ q,n=q+1:=⟨n - 1,by omega⟩
  have hlt:i < a.f2.length:=by omega
  rw [eU,dec_lt hlt,cond_true,eD hlt,bM,bS (by omega),bX hlt,List.flatMap_cons,hk]
  generalize a.f2.getD i 0=c at *
  have hc:0≤(c.toNat:Int)∧(c.toNat:Int) < 256:=⟨by omega,by have:=c.toNat_lt; omega⟩
  have hh:∀ k,k < 16→0≤((aG7.getD k 0).toNat:Int)∧((aG7.getD k 0).toNat:Int) < 256:=fun k _=>⟨by omega,by have:=(aG7.getD k 0).toNat_lt; omega⟩
  have hge:decide ((c.toNat:Int) ≥ 126)=decide ((c.toNat:Int) > 125):=by rw [decide_eq_decide]; omega
  simp only [dD6,dD4,aA,aY,dD3,dC1,bM,hge]
  have hi2:=fun acc' (hq:acc'.length≤acc.length+4)=>ih (i+1) n acc' (by omega) (by omega) (by omega)
  have hr:=c.toNat_lt
  rw [eD (by simp; omega),eD (by simp; omega),aL (hh _ (by omega)),aL (hh _ (by omega))]
  change call (bif _ then _ else bif _ then _ else bif par c then _ else bif ctl c then _ else _) _=_
  cases h:(c.toNat:Int) == 10
  ·cases h2:(c.toNat:Int) == 9
   ·cases h3:par c
    ·cases h4:ctl c
     ·simp only [cond_false]
      rw [aL hc,aL (by simp; omega),aA,hi2 _ (by simp)]
      rw [cH4 h h2 h3 h4]
      simp
     ·simp only [cond_false,cond_true]
      rw [aL (by simp; omega),aL (by simp; omega),aA,hi2 _ (by simp)]
      rw [cN6 h h2 h3 h4]
      simp [hx]
    ·simp only [cond_false,cond_true]
     rw [aL hc,aL (by simp; omega),aA,hi2 _ (by simp)]
     rw [cP1 h h2 h3]
     simp
   ·simp only [cond_false,cond_true]
    rw [aL (by simp; omega),aA,hi2 _ (by simp)]
    rw [cJ9 h h2]
    simp
  ·simp only [cond_true]
   rw [aL (by simp; omega),aA,hi2 _ (by simp)]
   rw [bV5 h]
   simp
theorem kS {f:UInt8→List UInt8} (h:∀ c,(f c).length≤4):∀ (s:List UInt8),(s.flatMap f).length≤4 * s.length
 | []=>by simp
 | c :: t=>by
  have:=kS h t
  have:=h c
  rw [List.flatMap_cons,List.length_append,List.length_cons]; omega
end Go.Vm.ObjM
