/-
  para.Hyphens: what it computes,in plain words; its callees at the world's level.
-/
import Derived.Test.YtbnneoaaeidenaaDoorParHd
namespace Go.Vm.ParG
open Go.Proofs
open Go.RowKit Go.Shelf
/-- A contract over data: what is returned,and that nothing that was there turns. -/
theorem belowD {P:Program} {k:Nat} {args:List AV} {us:List Value} {W:World} {res:AV} (h:ACall P k args [] res []) (hlen:us.length=args.length) (hn:args.length < resSlot) (hd:args.all AV.isData=true)
    (hr:All2 (fun _ a u=>RFlat (allS W) W (fun _=>.bool false) (0,0) a u) 0 args us) :
    Calls P k us.toArray W fun e W'=>∃ v S' β',e=.returned v∧RSlot (condG []) S' W' β' resSlot res v∧Below W.heap.size W W'∧∀ i b,res.ownsAt i=true→blk (β' (resSlot,i))=some b→W.heap.size≤b:=by
  obtain ⟨hown,hm0⟩:=start_memGs (gs:=[]) hlen hn hd hr (by simp)
  refine (h.2 W (allS W) (gbs []) us hlen hm0).mono fun e W' ⟨u,S',β',he,hm⟩=>?_
  obtain ⟨v,hv1,hv2⟩:=hm.rel resSlot
  have hu:=hv2 u (by simp)
  subst hu
  have hres:fget ((resSlot,res) :: boxFr virtBase (gvs [])) resSlot=res:=fget_cons_self _ _ _
  have hres':fget ((resSlot,res) :: boxFr virtBase []) resSlot=res:=fget_cons_self _ _ _
  rw [hres'] at hv1
  have noA:∀ b,¬ ownedBy (finFr args (gvs [])) (gbs []) b:=by
    rintro b ⟨x,j,hx,_⟩
    rw [hown] at hx
    cases hx
  refine ⟨u,S',β',he,hv1,⟨hm.os,hm.tape,hm.output,hm.size,fun i hi=>hm.old i hi (noA i)⟩,fun i b hi hb=>?_⟩
  rcases (hm.fre resSlot i b (by rw [hres']; exact hi) hb).2 with h' | h'
  · exact h'
  · exact (noA b h').elim
theorem letters_at (W:World) {F:Nat} {s:List UInt8} {r:Bool} (h:para_letters F s=some r):Calls Tryd.prog 15 #[strOf s] W fun e W'=>e=.returned (.bool r)∧Below W.heap.size W W' :=
  ACall.below (para_letters_ok h) (us:=[strOf s]) (u:=.bool r) rfl (show 1 < resSlot by decide) rfl W
theorem pattern_at (W:World) {F:Nat} {s w:List UInt8} {l:List Int} {ok:Bool} (h:para_pattern F s=some (w,l,ok)):Calls Tryd.prog 16 #[strOf s] W fun e W'=>∃ v,e=.returned (.tuple ⟨[strOf w,v,.bool ok]⟩)∧Below W.heap.size W W' ∧
    (l≠[]→∃ b off c,v=.slice (some ⟨b,off,none⟩) l.length c∧W.heap.size≤b∧b < W'.heap.size∧l.length≤c∧∀ j,j < l.length→W'.cell? ⟨b,off+j,none⟩=some (.int .i64 (l.getD j 0))):=by
  refine (belowD (us:=[strOf s]) (para_pattern_ok h) rfl (show 1 < resSlot by decide) rfl ⟨rfl,trivial⟩).mono ?_
  rintro e W' ⟨v,S',β',rfl,hv,hb,hfr⟩
  obtain ⟨vs,rfl,_,hp⟩:=hv
  match vs,hp with
  | [a,b,c],hp =>
    obtain ⟨h1,h2,h3,_⟩:=hp
    have e1:a=strOf w:=by simpa only [RFlat,RD] using h1
    have e2:c=.bool ok:=h3.1
    subst e1
    subst e2
    refine ⟨b,rfl,hb,fun hl=>?_⟩
    obtain ⟨h3,h4⟩:=h2
    rcases h4 with ⟨_,h5⟩ | ⟨b',off,c,arr,E,fz,h5,h6,h7,h8,h9,h10,h11⟩
    · exact absurd (List.map_eq_nil_iff.1 h5) hl
    · refine ⟨b',off,c,by rw [h5,List.length_map],hfr 2 b' rfl (by rw [← h3,h5]; rfl),heap_lt h9,by simpa using h6,fun i hi=>?_⟩
      obtain ⟨_,h12⟩:=REs.get _ off i [Dat.v (.int .i64 (l.getD i 0))] h11 (by simp [cI,List.getD_eq_getElem?_getD,List.getElem?_eq_getElem hi])
      obtain ⟨u,h13,h14⟩:=RCs.get _ _ 0 _ h12 rfl
      have e3:u=.int .i64 (l.getD i 0):=h14.1
      simp only [World.cell?,h9,Option.isSome_none,Bool.false_eq_true,if_false]
      simpa [e3] using h13
  | [],hp=>exact hp.elim
  | [_],hp=>exact hp.2.elim
  | [_,_],hp=>exact hp.2.2.elim
  | _ :: _ :: _ :: _ :: _,hp=>exact hp.2.2.2.elim
/-- All patterns are entered; some none: one is no pattern. -/
def hyphAll (F:Nat):List (List UInt8)→Sto→Option (Option Sto)
  | [],σ=>some (some σ)
  | p :: r,σ=>match para_pattern F p with
    | none=>none
    | some (w,l,ok)=>bif ok then
        (if w.length < 4611686018427387904∧l.length < 4294967296∧l≠[]∧l.length≤(lvOf (rowed (addW σ 0 w).1 (addW σ 0 w).2 l.length) (addW σ 0 w).2).length then hyphAll F r (addTo (addW σ 0 w).1 (addW σ 0 w).2 l) else none)
      else some none
/-- From a gap on: down the tree. -/
def goK (σ:Sto) (i:Nat):List UInt8→Nat→List Int→Option (List Int)
  | [],_,lv=>some lv
  | c :: r,n,lv=>match findCh (chOf σ n) c.toNat with
    | none=>some lv
    | some n'=>if i+(lvOf σ n').length≤lv.length then goK σ i r n' (maxInto lv i (lvOf σ n')) else none
def goI (σ:Sto):List UInt8→Nat→List Int→Option (List Int)
  | [],_,lv=>some lv
  | c :: r,i,lv=>match goK σ i (c :: r) 0 lv with
    | none=>none
    | some lv'=>goI σ r (i+1) lv'
/-- The gaps with odd levels,from one on. -/
def odds (lv:List Int):Nat→Nat→List Int
  | _,0=>[]
  | i,n+1=>if (lv.getD (i+1) 0).tmod 2=1 then (i:Int) :: odds lv (i+1) n else odds lv (i+1) n
def hyph (F:Nat) (word:List UInt8) (pats:List (List UInt8)):Option (List Int×Int) :=
  match para_letters F word with
  | none=>none
  | some false=>some ([],6)
  | some true=>if 256 < pats.length then some ([],2) else
    if 4294967290≤word.length then none else
    match hyphAll F pats [Nd.mk none none] with
    | none=>none
    | some none=>some ([],5)
    | some (some σ)=>match goI σ ([46]++word++[46]) 0 (List.replicate (word.length+3) 0) with
      | none=>none
      | some lv=>some (odds lv 2 (word.length - 3),0)
/-- Texts in a world. -/
def Texts (W:World) (v:Value) (xs:List (List UInt8)):Prop:=(∃ q,v=.slice q 0 0∧xs=[])∨∃ b off c,v=.slice (some ⟨b,off,none⟩) xs.length c∧xs.length≤c∧b < W.heap.size∧∀ (j:Nat) x,xs[j]? = some x→W.cell? ⟨b,off+j,none⟩=some (strOf x)
end Go.Vm.ParG
