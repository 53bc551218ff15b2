/-
  archive.Put: the entry that is being made,for the machine.
-/
import Derived.Test.YtflaiaeofndgmaaGreatDoorArWb
import Derived.Test.YtflaiaeofndgmaaGreatDoorVmC
namespace Go.Vm.ArzG
open Go.Proofs
open Go.RowKit Go.Shelf Go.Vm.ArzM
theorem fget_or:∀ (fr:Fr) (x:Nat),fget fr x=.junk∨(x,fget fr x)∈fr
  | [],_=>.inl rfl
  | (y,a) :: r,x=>by
    simp only [fget]
    split
    · rename_i h
      simp only [beq_iff_eq] at h
      subst h
      exact .inr (List.mem_cons_self ..)
    · rcases fget_or r x with h | h
      · exact .inl h
      · exact .inr (List.mem_cons_of_mem _ h)
def boxE (ks ia:List Int) (n:Int):AV:=.box [.own 56 1 (ks.map (cI .u32)),.own 3 1 (ia.map (cI .i64)),.d (.v (.int .i64 n))]
/-- The frame of raw values,with the box of an entry in slot 11. -/
def frE (ks ia:List Int) (n:Int) (r:List (Nat×Value)):Fr:=(virtBase,.box [.own 56 1 (ks.map (cI .u32)),.own 3 1 (ia.map (cI .i64)),.d (.v (.int .i64 n))]) :: (11,.bp virtBase 0) :: r.map fun z=>(z.1,.d (.v z.2))
def envE (w:World) (X:Nat) (kv av:Value):Env:=⟨w,EO X kv av,fun _=>False,fun x=>if x=virtBase then some (.pointer (some ⟨X,0,none⟩)) else none,[]⟩
def betE (X:Nat) (kv av:Value):Path→Value:=fun p=>if p=(virtBase,0) then .pointer (some ⟨X,0,none⟩) else if p=(virtBase,1) then kv else if p=(virtBase,2) then av else .slice none 0 0
theorem memE {w:World} {X N:Nat} {kv av:Value} {ks ia:List Int} {n:Int} {a:Act} {r:List (Nat×Value)} (hX:EntAt w X kv av ks ia n) (hd:a.defers=[]) (hN:a.tmps.size=N)
  (h11:a.tmps[11]? = some (.pointer (some ⟨X,0,none⟩))) (hr:∀ z∈r,a.tmps[z.1]? = some z.2∧z.2.oneCell'=true) (hNv:N≤1000000):MemA (envE w X kv av) [] N (frE ks ia n r) a w:=by
 refine ⟨hd,hN,fun _=>False,betE X kv av,?_⟩
 have cases:∀ x,(fget (frE ks ia n r) x=.junk)∨(x=virtBase∧fget (frE ks ia n r) x=boxE ks ia n)∨(x=11∧fget (frE ks ia n r) x=.bp virtBase 0)∨∃ v,fget (frE ks ia n r) x=.d (.v v)∧a.tmps[x]? = some v∧v.oneCell'=true:=by
  intro x
  rcases fget_or (frE ks ia n r) x with h | h
  ·exact .inl h
  ·rw [frE] at h
   rcases List.mem_cons.1 h with h | h
   ·exact .inr (.inl ⟨congrArg Prod.fst h,congrArg Prod.snd h⟩)
   ·rcases List.mem_cons.1 h with h | h
    ·exact .inr (.inr (.inl ⟨congrArg Prod.fst h,congrArg Prod.snd h⟩))
    ·obtain ⟨z,hz,e⟩:=List.mem_map.1 h
     have e1:z.1=x:=congrArg Prod.fst e
     have e2:.d (.v z.2)=fget (frE ks ia n r) x:=congrArg Prod.snd e
     obtain ⟨h1,h2⟩:=hr z hz
     exact .inr (.inr (.inr ⟨z.2,e2.symm,e1 ▸ h1,h2⟩))
 have own:∀ x i,(fget (frE ks ia n r) x).ownsAt i=true→x=virtBase∧(i=0∨i=1∨i=2):=by
  intro x i h
  rcases cases x with h1 | ⟨hx,h1⟩ | ⟨_,h1⟩ | ⟨v,h1,_⟩
  ·rw [h1] at h; cases i <;> cases h
  ·rw [h1] at h
   refine ⟨hx,?_⟩
   match i,h with
   | 0,_=>exact .inl rfl
   | 1,_=>exact .inr (.inl rfl)
   | 2,_=>exact .inr (.inr rfl)
   | 3,h=>cases h
   | _+4,h=>cases h
  ·rw [h1] at h; cases i <;> cases h
  ·rw [h1] at h; cases i <;> cases h
 have b0:betE X kv av (virtBase,0)=.pointer (some ⟨X,0,none⟩):=rfl
 have b1:betE X kv av (virtBase,1)=kv:=rfl
 have b2:betE X kv av (virtBase,2)=av:=rfl
 have bx:Go.Vm.blk (.pointer (some ⟨X,0,none⟩))=some X:=rfl
 obtain ⟨⟨E,hc⟩,hok,hoa,d1,d2,d3⟩:=hX
 refine ⟨fun x=>?_,fun x l y hx=>?_,fun x i y j b h1 h2 h3 h4=>?_,fun x i b h1 h2=>?_,fun b hb=>hb.elim,fun b hb=>hb.elim,fun _ _ _=>rfl,rfl,rfl,rfl,Nat.le_refl _⟩
 ·have hvp:valsOf (envE w X kv av) a virtBase=some (.pointer (some ⟨X,0,none⟩)):=by
   have hz:a.tmps[virtBase]? = none:=Array.getElem?_eq_none (by rw [hN]; exact Nat.le_trans hNv (by decide))
   simp only [valsOf,hz]
   rfl
  rcases cases x with h1 | ⟨hx,h1⟩ | ⟨hx,h1⟩ | ⟨v,h1,h2,h3⟩
  ·refine ⟨((valsOf (envE w X kv av) a) x).getD undef,?_,fun u' hu=>by rw [hu]; rfl⟩
   rw [h1]
   exact trivial
  ·subst hx
   refine ⟨.pointer (some ⟨X,0,none⟩),?_,fun u' hu=>by rw [hvp] at hu; exact (Option.some.inj hu).symm⟩
   rw [h1]
   exact ⟨rfl,X,[kv,av,.int .i64 n],E,rfl,hc,⟨rfl,hok⟩,⟨rfl,hoa⟩,⟨rfl,rfl⟩,trivial⟩
  ·subst hx
   refine ⟨.pointer (some ⟨X,0,none⟩),?_,fun u' hu=>by rw [valsOf_lt h11] at hu; exact (Option.some.inj hu).symm⟩
   rw [h1]
   exact ⟨X,rfl,rfl⟩
  ·refine ⟨v,?_,fun u' hu=>by rw [valsOf_lt h2] at hu; exact (Option.some.inj hu).symm⟩
   rw [h1]
   exact ⟨rfl,h3⟩
 ·rcases cases x with h1 | ⟨_,h1⟩ | ⟨_,h1⟩ | ⟨v,h1,_⟩ <;> rw [h1] at hx <;> cases hx
 ·obtain ⟨e1,e2⟩:=own x i h1
  obtain ⟨e3,e4⟩:=own y j h2
  subst e1 e3
  refine ⟨rfl,?_⟩
  rcases e2 with rfl | rfl | rfl <;> rcases e4 with rfl | rfl | rfl
  ·rfl
  ·rw [b0,bx] at h3; rw [b1] at h4; cases h3; exact absurd h4 d1
  ·rw [b0,bx] at h3; rw [b2] at h4; cases h3; exact absurd h4 d2
  ·rw [b0,bx] at h4; rw [b1] at h3; cases h4; exact absurd h3 d1
  ·rfl
  ·rw [b1] at h3; rw [b2] at h4; exact absurd h4 (d3 b h3)
  ·rw [b0,bx] at h4; rw [b2] at h3; cases h4; exact absurd h3 d2
  ·rw [b2] at h3; rw [b1] at h4; exact absurd h3 (d3 b h4)
  ·rfl
 ·obtain ⟨e1,e2⟩:=own x i h1
  subst e1
  refine ⟨fun h=>h,.inr ?_⟩
  rcases e2 with rfl | rfl | rfl
  ·rw [b0,bx] at h2; cases h2; exact .inl rfl
  ·exact .inr (.inl h2)
  ·exact .inr (.inr h2)
theorem ints_own {S:Nat→Prop} {w:World} {v:Value} {e:TypeId} {k:IntKind} {l:List Int} (h:OwnAt S w v e 1 (l.map (cI k))):OwnAt (fun _=>False) w v e 1 (l.map (cI k)):=by
 have key:∀ (l:List Int) (g:Nat→Option Value) (o:Nat),REs S w 1 (l.map (cI k)) g o→REs (fun _=>False) w 1 (l.map (cI k)) g o:=by
  intro l
  induction l with
  | nil=>exact fun _ _ _=>trivial
  | cons x l ih =>
   intro g o h
   obtain ⟨h1,⟨⟨u,h2,h3⟩,_⟩,h4⟩:=h
   exact ⟨h1,⟨⟨u,h2,h3⟩,trivial⟩,ih g _ h4⟩
 rcases h with h | ⟨b,off,c,arr,E,fz,h1,h2,h3,h4,h5,h6,h7⟩
 ·exact .inl h
 ·exact .inr ⟨b,off,c,arr,E,fz,h1,h2,h3,h4,h5,h6,key _ _ _ h7⟩
/-- What stands behind the region. -/
theorem outE {w w':World} {X N:Nat} {kv av:Value} {ks ia:List Int} {n:Int} {a':Act} {r:List (Nat×Value)} (h:MemA (envE w X kv av) [] N (frE ks ia n r) a' w') (hr:∀ z∈r,z.1≠11∧z.1 < N) (h11:11 < N) (hNv:N≤1000000) (hn:(r.map (·.1)).Nodup) :
  a'.defers=[]∧a'.tmps.size=N∧(∀ z∈r,a'.tmps[z.1]? = some z.2)∧∃ kv' av',a'.tmps[11]? = some (.pointer (some ⟨X,0,none⟩)) ∧
   EntAt w' X kv' av' ks ia n∧Mv w w' (EO X kv av) (EO X kv' av'):=by
 obtain ⟨hd,hN,S,β,hm⟩:=h
 have val:∀ x,x < N→a'.tmps[x]? = some (a'.tmps.getD x undef):=fun x hx=>by
  rw [Array.getD_eq_getD_getElem?,Array.getElem?_eq_getElem (by omega)]
  rfl
 have getr:∀ (r:List (Nat×Value)),(r.map (·.1)).Nodup→∀ z∈r,fget (r.map fun z=>(z.1,AV.d (.v z.2))) z.1=.d (.v z.2):=by
  intro r hn z hz
  induction r with
  | nil=>cases hz
  | cons y r ih =>
   simp only [List.map_cons,List.nodup_cons,List.mem_map,not_exists,not_and] at hn
   simp only [List.map_cons,fget]
   rcases List.mem_cons.1 hz with rfl | hz
   ·simp
   ·have:y.1≠z.1:=fun e=>hn.1 z hz e.symm
    rw [if_neg (by simpa using this)]
    exact ih hn.2 hz
 have g0:fget (frE ks ia n r) virtBase=boxE ks ia n:=rfl
 have hβ:β (virtBase,0)=.pointer (some ⟨X,0,none⟩):=by
  obtain ⟨u,h3,h4⟩:=hm.rel virtBase
  rw [g0] at h3
  have hz:a'.tmps[virtBase]? = none:=Array.getElem?_eq_none (by rw [hN]; exact Nat.le_trans hNv (by decide))
  have hvp:valsOf (envE w X kv av) a' virtBase=some (.pointer (some ⟨X,0,none⟩)):=by
   simp only [valsOf,hz]
   rfl
  rw [← h3.1,← h4 _ hvp]
 have own0:∀ i,i=0∨i=1∨i=2→(fget (frE ks ia n r) virtBase).ownsAt i=true:=by
  rintro i (rfl | rfl | rfl) <;> rfl
 refine ⟨hd,hN,fun z hz=>?_,β (virtBase,1),β (virtBase,2),?_,?_,⟨hm.os,hm.tape,hm.output,hm.size,fun k hk hne=>hm.old k hk hne,fun b hb=>?_⟩⟩
 ·obtain ⟨h1,h2⟩:=hr z hz
  obtain ⟨u,h3,h4⟩:=hm.rel z.1
  have h5:fget (frE ks ia n r) z.1=.d (.v z.2):=by
   rw [frE,fget,if_neg (by have:virtBase≠z.1:=Nat.ne_of_gt (Nat.lt_of_lt_of_le h2 (Nat.le_trans hNv (by decide))); simpa using this),fget,if_neg (by simpa using fun e=>h1 e.symm)]
   exact getr r hn z hz
  rw [h5] at h3
  have h6:u=z.2:=h3.1
  have h7:=h4 _ (valsOf_lt (val z.1 h2))
  rw [val z.1 h2,h7,h6]
 ·obtain ⟨u,h3,h4⟩:=hm.rel 11
  have h5:fget (frE ks ia n r) 11=.bp virtBase 0:=rfl
  rw [h5] at h3
  obtain ⟨b,h6,h7⟩:=h3
  rw [hβ] at h6
  cases h6
  rw [val 11 h11,h4 _ (valsOf_lt (val 11 h11)),h7]
 ·obtain ⟨u,h3,_⟩:=hm.rel virtBase
  rw [g0] at h3
  obtain ⟨e1,b,l,E,e2,e3,hp⟩:=h3
  rw [e1,hβ] at e2
  cases e2
  match l,hp with
  | [c0,c1,c2],hp =>
   obtain ⟨⟨q1,q2⟩,⟨q3,q4⟩,q5,_⟩:=hp
   have e5:c2=.int .i64 n:=q5.1
   subst e5
   have q1':c0=β (virtBase,1):=q1
   have q3':c1=β (virtBase,2):=q3
   subst q1' q3'
   refine ⟨⟨E,e3⟩,ints_own q2,ints_own q4,fun hb=>?_,fun hb=>?_,fun b h1 h2=>?_⟩
   ·have:=(hm.dis virtBase 1 virtBase 0 X (own0 1 (.inr (.inl rfl))) (own0 0 (.inl rfl)) hb (by rw [hβ]; rfl)).2
    omega
   ·have:=(hm.dis virtBase 2 virtBase 0 X (own0 2 (.inr (.inr rfl))) (own0 0 (.inl rfl)) hb (by rw [hβ]; rfl)).2
    omega
   ·have:=(hm.dis virtBase 1 virtBase 2 b (own0 1 (.inr (.inl rfl))) (own0 2 (.inr (.inr rfl))) h1 h2).2
    omega
  | [],hp=>exact hp.elim
  | [_],hp=>exact hp.2.elim
  | [_,_],hp=>exact hp.2.2.elim
  | _ :: _ :: _ :: _ :: _,hp=>exact hp.2.2.2.elim
 ·rcases hb with rfl | hb | hb
  ·exact .inl (.inl rfl)
  ·exact ((hm.fre virtBase 1 b (own0 1 (.inr (.inl rfl))) hb).2).symm
  ·exact ((hm.fre virtBase 2 b (own0 2 (.inr (.inr rfl))) hb).2).symm
theorem lit93 (t:Array Value) (h:t.size=93):∃ J:Nat→Value,t=((List.range 93).map J).toArray∧∀ i v,t[i]? = some v→J i=v:=by
 refine ⟨fun i=>t.getD i undef,?_,fun i v hv=>by simp [Array.getD_eq_getD_getElem?,hv]⟩
 apply Array.ext'
 apply List.ext_getElem?
 intro i
 rcases Nat.lt_or_ge i 93 with hi | hi
 ·rw [List.getElem?_map,List.getElem?_range hi,Array.getElem?_toList,Array.getElem?_eq_getElem (by omega),Option.map_some,Array.getD_eq_getD_getElem?,Array.getElem?_eq_getElem (by omega)]
  rfl
 ·rw [List.getElem?_eq_none (by simpa [h] using hi),List.getElem?_eq_none (by simpa using hi)]
end Go.Vm.ArzG
