/-
  A box of the caller's own at the world's level.
-/
import Derived.Test.YtflaiaeofndgmaaGreatDoorArWd
import Derived.Test.YtflaiaeofndgmaaGreatDoorVmD
namespace Go.Vm.ArzG
open Go.Proofs
open Go.RowKit Go.Shelf
/-- A box of the caller's own in block X; all that it owns lies from B0 on. -/
def BoxAt (w:World) (B0 X:Nat) (cs:List AV):Prop:=∃ S β,β (virtBase,0)=.pointer (some ⟨X,0,none⟩)∧RSlot (condG []) S w β virtBase (.box cs) (.pointer (some ⟨X,0,none⟩)) ∧
 (∀ i j b,(AV.box cs).ownsAt i=true→(AV.box cs).ownsAt j=true→blk (β (virtBase,i))=some b→blk (β (virtBase,j))=some b→i=j) ∧
 (∀ i b,(AV.box cs).ownsAt i=true→blk (β (virtBase,i))=some b→¬ S b∧B0≤b)∧(∀ b,S b→b < w.heap.size)∧B0≤w.heap.size
theorem boxCall {P:Program} {k:Nat} {al:List AV} {us:List Value} {cs cs':List AV} {res:AV} {w:World} {B0 X:Nat} (h:ACall P k (.bp virtBase 0 :: al) [.box cs] res [.box cs']) (hus:flatVs al=some us) (hal:al.length+1 < resSlot) (hb:BoxAt w B0 X cs) :
  Calls P k (.pointer (some ⟨X,0,none⟩) :: us).toArray w fun e w'=>∃ v,e=.returned v∧(∃ S' β',RSlot (condG []) S' w' β' resSlot res v)∧BoxAt w' B0 X cs'∧Below B0 w w':=by
 obtain ⟨S,β,hβ,hbox,hdis,hfre,hS,hB⟩:=hb
 obtain ⟨h1,h2⟩:=flatVs_get hus
 have hal':(AV.bp virtBase 0 :: al).length < resSlot:=by simpa using hal
 have fr0:fget (finFr (.bp virtBase 0 :: al) [.box cs]) virtBase=.box cs:=by
  have:=@fget_finFr_virt (AV.bp virtBase 0 :: al) [.box cs] 0 hal'
  simpa using this
 have cases:∀ x,(x=0∧fget (finFr (.bp virtBase 0 :: al) [.box cs]) x=.bp virtBase 0)∨(∃ i a u,x=i+1∧i+1 < resSlot∧us[i]? = some u∧flatV a=some u∧fget (finFr (.bp virtBase 0 :: al) [.box cs]) x=a)∨(fget (finFr (.bp virtBase 0 :: al) [.box cs]) x=.junk∧al.length+1≤x∧x≠virtBase)∨x=virtBase:=by
  intro x
  rcases finFr_cases (.bp virtBase 0 :: al) [.box cs] x with hx | ⟨hx1,hx2⟩ | ⟨j,rfl⟩
  ·cases x with
   | zero=>exact .inl ⟨rfl,by rw [fget_finFr_arg hx]; rfl⟩
   | succ i =>
    have hi:i < al.length:=by simpa using hx
    obtain ⟨u',hu',hv⟩:=h2 i _ (List.getElem?_eq_getElem hi)
    exact .inr (.inl ⟨i,_,u',rfl,by omega,hu',hv,by rw [fget_finFr_arg hx]; simp [List.getD_eq_getElem?_getD,List.getElem?_eq_getElem hi]⟩)
  ·exact .inr (.inr (.inl ⟨fget_finFr_none hx1 hx2,by simpa using hx1,Nat.ne_of_lt hx2⟩))
  ·cases j with
   | zero=>exact .inr (.inr (.inr rfl))
   | succ j =>
    refine .inr (.inr (.inl ⟨?_,?_,?_⟩))
    ·rw [fget_finFr_virt hal',if_neg (by simp)]
    ·have:virtBase=resSlot+1:=rfl
     omega
    ·omega
 have own:∀ x i,(fget (finFr (.bp virtBase 0 :: al) [.box cs]) x).ownsAt i=true→x=virtBase:=by
  intro x i hx
  rcases cases x with ⟨_,h3⟩ | ⟨j,a,u,rfl,_,hu,hf,h3⟩ | ⟨h3,_⟩ | h3
  ·rw [h3] at hx; cases i <;> cases hx
  ·rw [h3] at hx
   obtain ⟨_,_,h5,h4⟩:=flatV_mk (S:=fun _=>True) (w:=w) (β:=fun _=>.bool false) hf (0,0)
   have:=(flat_ownsAt h4 i hx).2
   rw [h5] at this; cases this
  ·rw [h3] at hx; cases i <;> cases hx
  ·exact h3
 have hl1:∀ x,x≠virtBase→lentAt β 1 x=none:=fun x hx=>by
  unfold lentAt
  rw [if_neg (by omega)]
 have hl0:lentAt β 1 virtBase=some (.pointer (some ⟨X,0,none⟩)):=by
  unfold lentAt
  rw [if_pos ⟨Nat.le_refl _,Nat.lt_succ_self _⟩,hβ]
 have hvb:al.length+1 < virtBase:=Nat.lt_of_lt_of_le hal (by decide)
 have hm:Mem ⟨w,ownedBy (finFr (.bp virtBase 0 :: al) [.box cs]) β,S,lentAt β ([AV.box cs]).length,[]⟩ [] S β (finFr (.bp virtBase 0 :: al) [.box cs]) (fun x=>((.pointer (some ⟨X,0,none⟩) :: us)[x]?).or (lentAt β ([AV.box cs]).length x)) w:=by
  refine ⟨fun x=>?_,fun x l a hx=>?_,fun x i y j b a1 a2 a3 a4=>?_,fun x i b a1 a2=>?_,fun b hb=>⟨hS b hb,.inl hb⟩,fun b hb=>hb,fun _ _ _=>rfl,rfl,rfl,rfl,Nat.le_refl _⟩
  ·rcases cases x with ⟨rfl,h3⟩ | ⟨j,a,u,rfl,hj,hu,hf,h3⟩ | ⟨h3,h4,h5⟩ | rfl
   ·refine ⟨.pointer (some ⟨X,0,none⟩),?_,fun u' hu=>by simpa using hu.symm⟩
    rw [h3]
    exact ⟨X,hβ,rfl⟩
   ·refine ⟨u,?_,fun u' hu'=>by simpa [hu] using hu'.symm⟩
    rw [h3]
    obtain ⟨h5,_,_,h4⟩:=flatV_mk (S:=S) (w:=w) (β:=β) hf (j+1,0)
    exact (flat_slot h4).2 h5
   ·refine ⟨undef,by rw [h3]; exact trivial,fun u' hu'=>?_⟩
    rw [List.getElem?_eq_none (by simpa [← h1] using h4)] at hu'
    have:=hl1 x h5
    simp only [List.length_singleton] at hu'
    rw [this] at hu'
    cases hu'
   ·refine ⟨.pointer (some ⟨X,0,none⟩),by rw [fr0]; exact hbox,fun u' hu'=>?_⟩
    rw [List.getElem?_eq_none (by simp only [List.length_cons,h1]; omega)] at hu'
    simp only [List.length_singleton] at hu'
    rw [hl0] at hu'
    simpa using hu'.symm
  ·rcases cases x with ⟨_,h3⟩ | ⟨j,a',u,rfl,_,hu,hf,h3⟩ | ⟨h3,_⟩ | rfl
   ·rw [h3] at hx; cases hx
   ·rw [h3] at hx; rw [hx] at hf; cases hf
   ·rw [h3] at hx; cases hx
   ·rw [fr0] at hx; cases hx
  ·have e1:=own x i a1
   have e2:=own y j a2
   subst e1 e2
   rw [fr0] at a1 a2
   exact ⟨rfl,hdis i j b a1 a2 a3 a4⟩
  ·have e1:=own x i a1
   have a1':=a1
   subst e1
   rw [fr0] at a1
   exact ⟨(hfre i b a1 a2).1,.inr ⟨virtBase,i,a1',a2⟩⟩
 have hown:∀ b,ownedBy (finFr (.bp virtBase 0 :: al) [.box cs]) β b→B0≤b:=by
  rintro b ⟨x,i,a1,a2⟩
  have e1:=own x i a1
  subst e1
  rw [fr0] at a1
  exact (hfre i b a1 a2).2
 refine (h.2 w S β (.pointer (some ⟨X,0,none⟩) :: us) (by simp [h1]) hm).mono ?_
 rintro e w' ⟨u,S',β',rfl,hm'⟩
 have g0:fget ((resSlot,res) :: boxFr virtBase [.box cs']) virtBase=.box cs':=rfl
 refine ⟨u,rfl,?_,⟨S',β',?_,?_,fun i j b a1 a2 a3 a4=>?_,fun i b a1 a2=>?_,fun b hb=>(hm'.stb b hb).1,Nat.le_trans hB hm'.size⟩,⟨hm'.os,hm'.tape,hm'.output,hm'.size,fun i hi=>hm'.old i (Nat.lt_of_lt_of_le hi hB) fun ho=>by have:=hown i ho; omega⟩⟩
 ·obtain ⟨v,hv,hv2⟩:=hm'.rel resSlot
  have e1:=hv2 u (by simp)
  rw [show fget ((resSlot,res) :: boxFr virtBase [.box cs']) resSlot=res from fget_cons_self _ _ _] at hv
  exact ⟨S',β',e1 ▸ hv⟩
 ·obtain ⟨v,hv,hv2⟩:=hm'.rel virtBase
  have e1:=hv2 (.pointer (some ⟨X,0,none⟩)) (by
   show (if virtBase=resSlot then _ else lentAt β 1 virtBase)=_
   rw [if_neg (by decide),hl0])
  rw [g0] at hv
  rw [← hv.1,e1]
 ·obtain ⟨v,hv,hv2⟩:=hm'.rel virtBase
  have e1:=hv2 (.pointer (some ⟨X,0,none⟩)) (by
   show (if virtBase=resSlot then _ else lentAt β 1 virtBase)=_
   rw [if_neg (by decide),hl0])
  rw [g0] at hv
  exact e1 ▸ hv
 ·exact (hm'.dis virtBase i virtBase j b (by rw [g0]; exact a1) (by rw [g0]; exact a2) a3 a4).2
 ·obtain ⟨q1,q2⟩:=hm'.fre virtBase i b (by rw [g0]; exact a1) a2
  refine ⟨q1,?_⟩
  rcases q2 with q2 | q2
  ·exact Nat.le_trans hB q2
  ·exact hown b q2
/-- .. with an argument of data that lies below the box. -/
theorem boxCallD {P:Program} {k:Nat} {x1:Dat} {u1:Value} {T1:Nat→Prop} {cs cs':List AV} {res:AV} {w:World} {B0 X:Nat} (h:ACall P k [.bp virtBase 0,.d x1] [.box cs] res [.box cs']) (hd1:RD T1 w x1 u1) (hT:∀ b,T1 b→b < B0∧b < w.heap.size) (hb:BoxAt w B0 X cs) :
  Calls P k #[.pointer (some ⟨X,0,none⟩),u1] w fun e w'=>∃ v,e=.returned v∧(∃ S' β',RSlot (condG []) S' w' β' resSlot res v)∧BoxAt w' B0 X cs'∧Below B0 w w':=by
 obtain ⟨S0,β,hβ,hbox0,hdis,hfre0,hS0,hB⟩:=hb
 obtain ⟨S,hSd⟩:∃ S:Nat→Prop,S=fun b=>S0 b∨T1 b:=⟨_,rfl⟩
 have hbox:RSlot (condG []) S w β virtBase (.box cs) (.pointer (some ⟨X,0,none⟩)):=hbox0.turn (fun _ _ _=>rfl) (fun b h=>by rw [hSd]; exact .inl h) (fun _ _=>rfl) (fun _=>rfl) (fun _ _ _ _=>rfl) (fun _ _=>rfl)
 have hfre:∀ i b,(AV.box cs).ownsAt i=true→blk (β (virtBase,i))=some b→¬ S b∧B0≤b:=fun i b a1 a2=>by
  obtain ⟨q1,q2⟩:=hfre0 i b a1 a2
  refine ⟨fun h=>?_,q2⟩
  rw [hSd] at h
  rcases h with h | h
  ·exact q1 h
  ·have:=(hT b h).1
   omega
 have hS:∀ b,S b→b < w.heap.size:=fun b h=>by
  rw [hSd] at h
  exact h.elim (hS0 b) fun h=>(hT b h).2
 have hx1:RD S w x1 u1:=RD.mono (fun b h=>by rw [hSd]; exact .inr h) (fun _ _=>rfl) _ _ hd1
 have hal':([AV.bp virtBase 0,AV.d x1]).length < resSlot:=show 2 < resSlot by decide
 have fr0:fget (finFr [AV.bp virtBase 0,.d x1] [.box cs]) virtBase=.box cs:=by
  have:=@fget_finFr_virt [AV.bp virtBase 0,.d x1] [.box cs] 0 hal'
  simpa using this
 have cases:∀ x,(x=0∧fget (finFr [AV.bp virtBase 0,.d x1] [.box cs]) x=.bp virtBase 0)∨(x=1∧fget (finFr [AV.bp virtBase 0,.d x1] [.box cs]) x=.d x1)∨(fget (finFr [AV.bp virtBase 0,.d x1] [.box cs]) x=.junk∧2≤x∧x≠virtBase)∨x=virtBase:=by
  intro x
  rcases finFr_cases [AV.bp virtBase 0,.d x1] [.box cs] x with hx | ⟨hx1,hx2⟩ | ⟨j,rfl⟩
  ·match x,hx with
   | 0,hx=>exact .inl ⟨rfl,by rw [fget_finFr_arg hx]; rfl⟩
   | 1,hx=>exact .inr (.inl ⟨rfl,by rw [fget_finFr_arg hx]; rfl⟩)
   | x+2,hx=>exact absurd hx (by simp)
  ·exact .inr (.inr (.inl ⟨fget_finFr_none hx1 hx2,by simpa using hx1,Nat.ne_of_lt hx2⟩))
  ·cases j with
   | zero=>exact .inr (.inr (.inr rfl))
   | succ j =>
    refine .inr (.inr (.inl ⟨?_,?_,?_⟩))
    ·rw [fget_finFr_virt hal',if_neg (by simp)]
    ·have:virtBase=resSlot+1:=rfl
     have:2≤virtBase:=by decide
     omega
    ·omega
 have own:∀ x i,(fget (finFr [AV.bp virtBase 0,.d x1] [.box cs]) x).ownsAt i=true→x=virtBase:=by
  intro x i hx
  rcases cases x with ⟨_,h3⟩ | ⟨_,h3⟩ | ⟨h3,_⟩ | h3
  ·rw [h3] at hx; cases i <;> cases hx
  ·rw [h3] at hx; cases i <;> cases hx
  ·rw [h3] at hx; cases i <;> cases hx
  ·exact h3
 have hl1:∀ x,x≠virtBase→lentAt β 1 x=none:=fun x hx=>by
  unfold lentAt
  rw [if_neg (by omega)]
 have hl0:lentAt β 1 virtBase=some (.pointer (some ⟨X,0,none⟩)):=by
  unfold lentAt
  rw [if_pos ⟨Nat.le_refl _,Nat.lt_succ_self _⟩,hβ]
 have hvb:2≤virtBase:=by decide
 have hm:Mem ⟨w,ownedBy (finFr [AV.bp virtBase 0,.d x1] [.box cs]) β,S,lentAt β ([AV.box cs]).length,[]⟩ [] S β (finFr [AV.bp virtBase 0,.d x1] [.box cs]) (fun x=>([.pointer (some ⟨X,0,none⟩),u1][x]?).or (lentAt β ([AV.box cs]).length x)) w:=by
  refine ⟨fun x=>?_,fun x l a hx=>?_,fun x i y j b a1 a2 a3 a4=>?_,fun x i b a1 a2=>?_,fun b hb=>⟨hS b hb,.inl hb⟩,fun b hb=>hb,fun _ _ _=>rfl,rfl,rfl,rfl,Nat.le_refl _⟩
  ·rcases cases x with ⟨rfl,h3⟩ | ⟨rfl,h3⟩ | ⟨h3,h4,h5⟩ | rfl
   ·refine ⟨.pointer (some ⟨X,0,none⟩),?_,fun u' hu=>by simpa using hu.symm⟩
    rw [h3]
    exact ⟨X,hβ,rfl⟩
   ·refine ⟨u1,?_,fun u' hu'=>by simpa using hu'.symm⟩
    rw [h3]
    exact hx1
   ·refine ⟨undef,by rw [h3]; exact trivial,fun u' hu'=>?_⟩
    rw [List.getElem?_eq_none (by simpa using h4)] at hu'
    have:=hl1 x h5
    simp only [List.length_singleton] at hu'
    rw [this] at hu'
    cases hu'
   ·refine ⟨.pointer (some ⟨X,0,none⟩),by rw [fr0]; exact hbox,fun u' hu'=>?_⟩
    rw [List.getElem?_eq_none (by simpa using hvb)] at hu'
    simp only [List.length_singleton] at hu'
    rw [hl0] at hu'
    simpa using hu'.symm
  ·rcases cases x with ⟨_,h3⟩ | ⟨_,h3⟩ | ⟨h3,_⟩ | rfl
   ·rw [h3] at hx; cases hx
   ·rw [h3] at hx; cases hx
   ·rw [h3] at hx; cases hx
   ·rw [fr0] at hx; cases hx
  ·have e1:=own x i a1
   have e2:=own y j a2
   subst e1 e2
   rw [fr0] at a1 a2
   exact ⟨rfl,hdis i j b a1 a2 a3 a4⟩
  ·have e1:=own x i a1
   have a1':=a1
   subst e1
   rw [fr0] at a1
   exact ⟨(hfre i b a1 a2).1,.inr ⟨virtBase,i,a1',a2⟩⟩
 have hown:∀ b,ownedBy (finFr [AV.bp virtBase 0,.d x1] [.box cs]) β b→B0≤b:=by
  rintro b ⟨x,i,a1,a2⟩
  have e1:=own x i a1
  subst e1
  rw [fr0] at a1
  exact (hfre i b a1 a2).2
 refine (h.2 w S β [.pointer (some ⟨X,0,none⟩),u1] (by simp) hm).mono ?_
 rintro e w' ⟨u,S',β',rfl,hm'⟩
 have g0:fget ((resSlot,res) :: boxFr virtBase [.box cs']) virtBase=.box cs':=rfl
 refine ⟨u,rfl,?_,⟨S',β',?_,?_,fun i j b a1 a2 a3 a4=>?_,fun i b a1 a2=>?_,fun b hb=>(hm'.stb b hb).1,Nat.le_trans hB hm'.size⟩,⟨hm'.os,hm'.tape,hm'.output,hm'.size,fun i hi=>hm'.old i (Nat.lt_of_lt_of_le hi hB) fun ho=>by have:=hown i ho; omega⟩⟩
 ·obtain ⟨v,hv,hv2⟩:=hm'.rel resSlot
  have e1:=hv2 u (by simp)
  rw [show fget ((resSlot,res) :: boxFr virtBase [.box cs']) resSlot=res from fget_cons_self _ _ _] at hv
  exact ⟨S',β',e1 ▸ hv⟩
 ·obtain ⟨v,hv,hv2⟩:=hm'.rel virtBase
  have e1:=hv2 (.pointer (some ⟨X,0,none⟩)) (by
   show (if virtBase=resSlot then _ else lentAt β 1 virtBase)=_
   rw [if_neg (by decide),hl0])
  rw [g0] at hv
  rw [← hv.1,e1]
 ·obtain ⟨v,hv,hv2⟩:=hm'.rel virtBase
  have e1:=hv2 (.pointer (some ⟨X,0,none⟩)) (by
   show (if virtBase=resSlot then _ else lentAt β 1 virtBase)=_
   rw [if_neg (by decide),hl0])
  rw [g0] at hv
  exact e1 ▸ hv
 ·exact (hm'.dis virtBase i virtBase j b (by rw [g0]; exact a1) (by rw [g0]; exact a2) a3 a4).2
 ·obtain ⟨q1,q2⟩:=hm'.fre virtBase i b (by rw [g0]; exact a1) a2
  refine ⟨q1,?_⟩
  rcases q2 with q2 | q2
  ·exact Nat.le_trans hB q2
  ·exact hown b q2
theorem boxNew {w:World} {X:Nat} (hX:w.heap[X]? = some (.cells #[.pointer none,.slice none 0 0] 74 (0,0))):BoxAt w X X [.slf 0 74,.own 5 1 []]:=by
 refine ⟨fun _=>False,fun p=>if p=(virtBase,0) then .pointer (some ⟨X,0,none⟩) else .slice none 0 0,by simp,?_,?_,?_,fun b hb=>hb.elim,Nat.le_of_lt (heap_lt hX)⟩
 ·refine ⟨by simp,X,_,74,rfl,hX,⟨by simp,?_,.inl rfl⟩,⟨by simp,.inl ⟨rfl,rfl⟩⟩,trivial⟩
  simp [tyAt,hX]
 ·intro i j b _ _ h3 h4
  have key:∀ i b,blk ((fun p:Path=>if p=(virtBase,0) then Value.pointer (some ⟨X,0,none⟩) else .slice none 0 0) (virtBase,i))=some b→i=0:=by
   intro i b h
   by_cases hi:i=0
   ·exact hi
   ·simp [hi,blk] at h
  rw [key i b h3,key j b h4]
 ·intro i b _ h
  by_cases hi:i=0
  ·subst hi
   simp [blk] at h
   exact ⟨fun h=>h,Nat.le_of_eq h⟩
  ·simp [hi,blk] at h
/-- (*strings.Builder).Write -/
theorem Write_ok {a0 c1:List UInt8} (hp1:c1.length+a0.length≤4294967296):ACall Tryz.prog 45 [.bp 1000000 0,.d (.sl 1 (a0.map cU))] [.box [.slf 0 74,.own 5 1 (c1.map cU)]] (.tup [.d (.v (.int .i64 (a0.length:Int))),.d (.v .nilIface)]) [.box [.slf 0 74,.own 5 1 ((c1++a0).map cU)]]:=by
 refine ACall.intro (N:=19) Tryz.func45 rfl rfl rfl rfl rfl fun e=>?_
 refine T_reg [] [0,1,1000000] [] [] 2 (by kernel_rfl) (trivial) ?_
 refine T_reg [(1,{ xs:=[1000000],res:=.tup [],vout:=[.box [.slf 0 74,.own 5 1 (c1.map cU)]] })] [0,1,1000000] [] [(1,ACall Tryz.prog 51 [.bp 1000000 0] [.box [.slf 0 74,.own 5 1 (c1.map cU)]] (.tup []) [.box [.slf 0 74,.own 5 1 (c1.map cU)]])] 0 (by kernel_rfl) (b_copyCheck (E:=74) (by kernel_rfl) (by kernel_rfl) (by kernel_rfl)) ?_
 refine T_reg [(6,{ es:=some ((c1++a0).map cU) })] [1,1000000] [(1000000,.box [.slf 0 74,.own 5 1 ((c1++a0).map cU)])] [(6,(c1.map cU).length+(a0.map cU).length≤4294967296∧(c1.map cU)++(a0.map cU)=((c1++a0).map cU))] 3 (by kernel_rfl) (app_ok cU hp1) ?_
 have hl:(a0.map cU).length=a0.length:=List.length_map ..
 refine T_reg [] [4,5,1000000] [(4,.d (.v (.int .i64 ((a0.map cU).length:Int)))),(5,.d (.v .nilIface))] [] 4 (by kernel_rfl) (trivial) ?_
 rw [← hl]
 refine T_ret fun a w hm=>T_return (fr':=[(4,.d (.v (.int .i64 ((a0.map cU).length:Int)))),(5,.d (.v .nilIface)),(1000000,.box [.slf 0 74,.own 5 1 ((c1++a0).map cU)])]) [4,5] (by kernel_rfl) [.keep [4,5,1000000]] (by kernel_rfl) (by kernel_rfl) (by kernel_rfl) (by show _=_; kernel_rfl) (by exact ⟨⟨by kernel_rfl,by kernel_rfl⟩,trivial⟩) a w hm
end Go.Vm.ArzG
