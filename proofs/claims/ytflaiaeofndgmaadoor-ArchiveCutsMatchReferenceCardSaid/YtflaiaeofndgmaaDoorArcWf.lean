import Derived.Test.YtflaiaeofndgmaaDoorArcWe
import Derived.Test.YtflaiaeofndgmaaDoorArcBd
import Derived.Test.YtflaiaeofndgmaaDoorVmD
namespace Go.Vm.ArcG
open Go.Proofs
open Go.RowKit Go.Shelf
/-- A box of the caller's own in block X; all that it owns lies from B0 on. -/
def BoxAt (w:World) (B0 X:Nat) (cs:List AV):Prop:=∃ S β,β (virtBase,0)=.pointer (some ⟨X,0,none⟩)∧RSlot (condG []) S w β virtBase (.box cs) (.pointer (some ⟨X,0,none⟩)) ∧
  (∀ i j b,(AV.box cs).ownsAt i=true→(AV.box cs).ownsAt j=true→blk (β (virtBase,i))=some b→blk (β (virtBase,j))=some b→i=j) ∧
  (∀ i b,(AV.box cs).ownsAt i=true→blk (β (virtBase,i))=some b→¬ S b∧B0≤b)∧(∀ b,S b→b < w.heap.size)∧B0≤w.heap.size
theorem boxCall {P:Program} {k:Nat} {al:List AV} {us:List Value} {cs cs':List AV} {res:AV} {w:World} {B0 X:Nat} (h:ACall P k (.bp virtBase 0 :: al) [.box cs] res [.box cs']) (hus:flatVs al=some us) (hal:al.length+1 < resSlot) (hb:BoxAt w B0 X cs) :
    Calls P k (.pointer (some ⟨X,0,none⟩) :: us).toArray w fun e w'=>∃ v,e=.returned v∧(∃ S' β',RSlot (condG []) S' w' β' resSlot res v)∧BoxAt w' B0 X cs'∧Below B0 w w':=by
  obtain ⟨S,β,hβ,hbox,hdis,hfre,hS,hB⟩:=hb
  obtain ⟨h1,h2⟩:=flatVs_get hus
  have hal':(AV.bp virtBase 0 :: al).length < resSlot:=by simpa using hal
  have fr0:fget (finFr (.bp virtBase 0 :: al) [.box cs]) virtBase=.box cs:=by
    have:=@fget_finFr_virt (AV.bp virtBase 0 :: al) [.box cs] 0 hal'
    simpa using this
  have cases:∀ x,(x=0∧fget (finFr (.bp virtBase 0 :: al) [.box cs]) x=.bp virtBase 0)∨(∃ i a u,x=i+1∧i+1 < resSlot∧us[i]? = some u∧flatV a=some u∧fget (finFr (.bp virtBase 0 :: al) [.box cs]) x=a)∨(fget (finFr (.bp virtBase 0 :: al) [.box cs]) x=.junk∧al.length+1≤x∧x≠virtBase)∨x=virtBase:=by
    intro x
    rcases finFr_cases (.bp virtBase 0 :: al) [.box cs] x with hx | ⟨hx1,hx2⟩ | ⟨j,rfl⟩
    · cases x with
      | zero=>exact .inl ⟨rfl,by rw [fget_finFr_arg hx]; rfl⟩
      | succ i =>
        have hi:i < al.length:=by simpa using hx
        obtain ⟨u',hu',hv⟩:=h2 i _ (List.getElem?_eq_getElem hi)
        exact .inr (.inl ⟨i,_,u',rfl,by omega,hu',hv,by rw [fget_finFr_arg hx]; simp [List.getD_eq_getElem?_getD,List.getElem?_eq_getElem hi]⟩)
    · exact .inr (.inr (.inl ⟨fget_finFr_none hx1 hx2,by simpa using hx1,Nat.ne_of_lt hx2⟩))
    · cases j with
      | zero=>exact .inr (.inr (.inr rfl))
      | succ j =>
        refine .inr (.inr (.inl ⟨?_,?_,?_⟩))
        · rw [fget_finFr_virt hal',if_neg (by simp)]
        · have:virtBase=resSlot+1:=rfl
          omega
        · omega
  have own:∀ x i,(fget (finFr (.bp virtBase 0 :: al) [.box cs]) x).ownsAt i=true→x=virtBase:=by
    intro x i hx
    rcases cases x with ⟨_,h3⟩ | ⟨j,a,u,rfl,_,hu,hf,h3⟩ | ⟨h3,_⟩ | h3
    · rw [h3] at hx; cases i <;> cases hx
    · rw [h3] at hx
      obtain ⟨_,_,h5,h4⟩:=flatV_mk (S:=fun _=>True) (w:=w) (β:=fun _=>.bool false) hf (0,0)
      have:=(flat_ownsAt h4 i hx).2
      rw [h5] at this; cases this
    · rw [h3] at hx; cases i <;> cases hx
    · exact h3
  have hl1:∀ x,x≠virtBase→lentAt β 1 x=none:=fun x hx=>by
    unfold lentAt
    rw [if_neg (by omega)]
  have hl0:lentAt β 1 virtBase=some (.pointer (some ⟨X,0,none⟩)):=by
    unfold lentAt
    rw [if_pos ⟨Nat.le_refl _,Nat.lt_succ_self _⟩,hβ]
  have hvb:al.length+1 < virtBase:=Nat.lt_of_lt_of_le hal (by decide)
  have hm:Mem ⟨w,ownedBy (finFr (.bp virtBase 0 :: al) [.box cs]) β,S,lentAt β ([AV.box cs]).length,[]⟩ [] S β (finFr (.bp virtBase 0 :: al) [.box cs]) (fun x=>((.pointer (some ⟨X,0,none⟩) :: us)[x]?).or (lentAt β ([AV.box cs]).length x)) w:=by
    refine ⟨fun x=>?_,fun x l a hx=>?_,fun x i y j b a1 a2 a3 a4=>?_,fun x i b a1 a2=>?_,fun b hb=>⟨hS b hb,.inl hb⟩,fun b hb=>hb,fun _ _ _=>rfl,rfl,rfl,rfl,Nat.le_refl _⟩
    · rcases cases x with ⟨rfl,h3⟩ | ⟨j,a,u,rfl,hj,hu,hf,h3⟩ | ⟨h3,h4,h5⟩ | rfl
      · refine ⟨.pointer (some ⟨X,0,none⟩),?_,fun u' hu=>by simpa using hu.symm⟩
        rw [h3]
        exact ⟨X,hβ,rfl⟩
      · refine ⟨u,?_,fun u' hu'=>by simpa [hu] using hu'.symm⟩
        rw [h3]
        obtain ⟨h5,_,_,h4⟩:=flatV_mk (S:=S) (w:=w) (β:=β) hf (j+1,0)
        exact (flat_slot h4).2 h5
      · refine ⟨undef,by rw [h3]; exact trivial,fun u' hu'=>?_⟩
        rw [List.getElem?_eq_none (by simpa [← h1] using h4)] at hu'
        have:=hl1 x h5
        simp only [List.length_singleton] at hu'
        rw [this] at hu'
        cases hu'
      · refine ⟨.pointer (some ⟨X,0,none⟩),by rw [fr0]; exact hbox,fun u' hu'=>?_⟩
        rw [List.getElem?_eq_none (by simp only [List.length_cons,h1]; omega)] at hu'
        simp only [List.length_singleton] at hu'
        rw [hl0] at hu'
        simpa using hu'.symm
    · rcases cases x with ⟨_,h3⟩ | ⟨j,a',u,rfl,_,hu,hf,h3⟩ | ⟨h3,_⟩ | rfl
      · rw [h3] at hx; cases hx
      · rw [h3] at hx; rw [hx] at hf; cases hf
      · rw [h3] at hx; cases hx
      · rw [fr0] at hx; cases hx
    · have e1:=own x i a1
      have e2:=own y j a2
      subst e1 e2
      rw [fr0] at a1 a2
      exact ⟨rfl,hdis i j b a1 a2 a3 a4⟩
    · have e1:=own x i a1
      have a1':=a1
      subst e1
      rw [fr0] at a1
      exact ⟨(hfre i b a1 a2).1,.inr ⟨virtBase,i,a1',a2⟩⟩
  have hown:∀ b,ownedBy (finFr (.bp virtBase 0 :: al) [.box cs]) β b→B0≤b:=by
    rintro b ⟨x,i,a1,a2⟩
    have e1:=own x i a1
    subst e1
    rw [fr0] at a1
    exact (hfre i b a1 a2).2
  refine (h.2 w S β (.pointer (some ⟨X,0,none⟩) :: us) (by simp [h1]) hm).mono ?_
  rintro e w' ⟨u,S',β',rfl,hm'⟩
  have g0:fget ((resSlot,res) :: boxFr virtBase [.box cs']) virtBase=.box cs':=rfl
  refine ⟨u,rfl,?_,⟨S',β',?_,?_,fun i j b a1 a2 a3 a4=>?_,fun i b a1 a2=>?_,fun b hb=>(hm'.stb b hb).1,Nat.le_trans hB hm'.size⟩,⟨hm'.os,hm'.tape,hm'.output,hm'.size,fun i hi=>hm'.old i (Nat.lt_of_lt_of_le hi hB) fun ho=>by have:=hown i ho; omega⟩⟩
  · obtain ⟨v,hv,hv2⟩:=hm'.rel resSlot
    have e1:=hv2 u (by simp)
    rw [show fget ((resSlot,res) :: boxFr virtBase [.box cs']) resSlot=res from fget_cons_self _ _ _] at hv
    exact ⟨S',β',e1 ▸ hv⟩
  · obtain ⟨v,hv,hv2⟩:=hm'.rel virtBase
    have e1:=hv2 (.pointer (some ⟨X,0,none⟩)) (by
      show (if virtBase=resSlot then _ else lentAt β 1 virtBase)=_
      rw [if_neg (by decide),hl0])
    rw [g0] at hv
    rw [← hv.1,e1]
  · obtain ⟨v,hv,hv2⟩:=hm'.rel virtBase
    have e1:=hv2 (.pointer (some ⟨X,0,none⟩)) (by
      show (if virtBase=resSlot then _ else lentAt β 1 virtBase)=_
      rw [if_neg (by decide),hl0])
    rw [g0] at hv
    exact e1 ▸ hv
  · exact (hm'.dis virtBase i virtBase j b (by rw [g0]; exact a1) (by rw [g0]; exact a2) a3 a4).2
  · obtain ⟨q1,q2⟩:=hm'.fre virtBase i b (by rw [g0]; exact a1) a2
    refine ⟨q1,?_⟩
    rcases q2 with q2 | q2
    · exact Nat.le_trans hB q2
    · exact hown b q2
end Go.Vm.ArcG
