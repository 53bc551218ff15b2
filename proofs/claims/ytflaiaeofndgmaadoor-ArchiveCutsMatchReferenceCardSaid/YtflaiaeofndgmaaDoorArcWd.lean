import Derived.Test.YtflaiaeofndgmaaDoorArcWc
import Derived.Test.YtflaiaeofndgmaaDoorVmC
namespace Go.Vm.ArcG
open Go.Proofs
open Go.RowKit Go.Shelf
theorem fget_or:∀ (fr:Fr) (x:Nat),fget fr x=.junk∨(x,fget fr x)∈fr
  | [],_=>.inl rfl
  | (y,a) :: r,x=>by
    simp only [fget]
    split
    · rename_i h
      simp only [beq_iff_eq] at h
      subst h
      exact .inr (List.mem_cons_self ..)
    · rcases fget_or r x with h | h
      · exact .inl h
      · exact .inr (List.mem_cons_of_mem _ h)
/-- The frame of raw values,with the box of an entry in slot 11. -/
def frX (es fs:List (List Dat)) (r:List (Nat×Value)):Fr:=(virtBase,.box [.own 49 1 es,.own 3 1 fs,.d (.v (.int .i64 1))]) :: (11,.bp virtBase 0) :: r.map fun z=>(z.1,.d (.v z.2))
def envX (w:World) (X:Nat):Env:=⟨w,fun b=>b=X,fun _=>False,fun x=>if x=virtBase then some (.pointer (some ⟨X,0,none⟩)) else none,[]⟩
theorem memX {w:World} {X N:Nat} {a:Act} {r:List (Nat×Value)} (hX:w.heap[X]? = some (.cells #[Value.slice none 0 0,Value.slice none 0 0,Value.int IntKind.i64 1] 48 (0,0))) (hd:a.defers=[]) (hN:a.tmps.size=N)
    (h11:a.tmps[11]? = some (.pointer (some ⟨X,0,none⟩))) (hr:∀ z∈r,a.tmps[z.1]? = some z.2∧z.2.oneCell'=true) (hNv:N≤1000000):MemA (envX w X) [] N (frX [] [] r) a w:=by
  refine ⟨hd,hN,fun _=>False,fun p=>if p=(virtBase,0) then .pointer (some ⟨X,0,none⟩) else .slice none 0 0,?_⟩
  have cases:∀ x,(fget (frX [] [] r) x=.junk)∨(x=virtBase∧fget (frX [] [] r) x=.box [.own 49 1 [],.own 3 1 [],.d (.v (.int .i64 1))])∨(x=11∧fget (frX [] [] r) x=.bp virtBase 0)∨∃ v,fget (frX [] [] r) x=.d (.v v)∧a.tmps[x]? = some v∧v.oneCell'=true:=by
    intro x
    rcases fget_or (frX [] [] r) x with h | h
    · exact .inl h
    · rw [frX] at h
      rcases List.mem_cons.1 h with h | h
      · exact .inr (.inl ⟨congrArg Prod.fst h,congrArg Prod.snd h⟩)
      · rcases List.mem_cons.1 h with h | h
        · exact .inr (.inr (.inl ⟨congrArg Prod.fst h,congrArg Prod.snd h⟩))
        · obtain ⟨z,hz,e⟩:=List.mem_map.1 h
          have e1:z.1=x:=congrArg Prod.fst e
          have e2:.d (.v z.2)=fget (frX [] [] r) x:=congrArg Prod.snd e
          obtain ⟨h1,h2⟩:=hr z hz
          exact .inr (.inr (.inr ⟨z.2,e2.symm,e1 ▸ h1,h2⟩))
  have own:∀ x i,(fget (frX [] [] r) x).ownsAt i=true→x=virtBase∧(i=0∨i=1∨i=2):=by
    intro x i h
    rcases cases x with h1 | ⟨hx,h1⟩ | ⟨_,h1⟩ | ⟨v,h1,_⟩
    · rw [h1] at h; cases i <;> cases h
    · rw [h1] at h
      refine ⟨hx,?_⟩
      match i,h with
      | 0,_=>exact .inl rfl
      | 1,_=>exact .inr (.inl rfl)
      | 2,_=>exact .inr (.inr rfl)
      | 3,h=>cases h
      | _+4,h=>cases h
    · rw [h1] at h; cases i <;> cases h
    · rw [h1] at h; cases i <;> cases h
  have blkβ:∀ i b,blk ((fun p:Path=>if p=(virtBase,0) then Value.pointer (some ⟨X,0,none⟩) else .slice none 0 0) (virtBase,i))=some b→i=0∧b=X:=by
    intro i b h
    by_cases hi:i=0
    · subst hi
      simp [blk] at h
      exact ⟨rfl,h.symm⟩
    · simp [hi,blk] at h
  refine ⟨fun x=>?_,fun x l y hx=>?_,fun x i y j b h1 h2 h3 h4=>?_,fun x i b h1 h2=>?_,fun b hb=>hb.elim,fun b hb=>hb.elim,fun _ _ _=>rfl,rfl,rfl,rfl,Nat.le_refl _⟩
  · have hvp:valsOf (envX w X) a virtBase=some (.pointer (some ⟨X,0,none⟩)):=by
      have hz:a.tmps[virtBase]? = none:=Array.getElem?_eq_none (by rw [hN]; exact Nat.le_trans hNv (by decide))
      simp only [valsOf,hz]
      rfl
    rcases cases x with h1 | ⟨hx,h1⟩ | ⟨hx,h1⟩ | ⟨v,h1,h2,h3⟩
    · refine ⟨((valsOf (envX w X) a) x).getD undef,?_,fun u' hu=>by rw [hu]; rfl⟩
      rw [h1]
      exact trivial
    · subst hx
      refine ⟨.pointer (some ⟨X,0,none⟩),?_,fun u' hu=>by rw [hvp] at hu; exact (Option.some.inj hu).symm⟩
      rw [h1]
      exact ⟨rfl,X,_,48,rfl,hX,⟨rfl,.inl ⟨rfl,rfl⟩⟩,⟨rfl,.inl ⟨rfl,rfl⟩⟩,⟨rfl,rfl⟩,trivial⟩
    · subst hx
      refine ⟨.pointer (some ⟨X,0,none⟩),?_,fun u' hu=>by rw [valsOf_lt h11] at hu; exact (Option.some.inj hu).symm⟩
      rw [h1]
      exact ⟨X,rfl,rfl⟩
    · refine ⟨v,?_,fun u' hu=>by rw [valsOf_lt h2] at hu; exact (Option.some.inj hu).symm⟩
      rw [h1]
      exact ⟨rfl,h3⟩
  · rcases cases x with h1 | ⟨_,h1⟩ | ⟨_,h1⟩ | ⟨v,h1,_⟩ <;> rw [h1] at hx <;> cases hx
  · obtain ⟨e1,e2⟩:=own x i h1
    obtain ⟨e3,e4⟩:=own y j h2
    subst e1 e3
    exact ⟨rfl,by rw [(blkβ i b h3).1,(blkβ j b h4).1]⟩
  · obtain ⟨e1,e2⟩:=own x i h1
    subst e1
    exact ⟨fun h=>h,.inr (blkβ i b h2).2⟩
/-- What stands behind the region. -/
theorem outX {w w':World} {X N:Nat} {a':Act} {r:List (Nat×Value)} {K:Int} (hXw:X < w.heap.size) (h:MemA (envX w X) [] N (frX [[.v (.int .u32 K)]] [[.v (.int .i64 0)]] r) a' w') (hr:∀ z∈r,z.1≠11∧z.1 < N) (hNv:N≤1000000) (hn:(r.map (·.1)).Nodup) :
    a'.defers=[]∧a'.tmps.size=N∧(∀ z∈r,a'.tmps[z.1]? = some z.2)∧(11 < N→a'.tmps[11]? = some (.pointer (some ⟨X,0,none⟩)))∧Kept1 X w w' ∧
    ∃ kb ko kc karr kE kf ab ao ac aarr aE af E,w'.heap[X]? = some (.cells #[.slice (some ⟨kb,ko,none⟩) 1 kc,.slice (some ⟨ab,ao,none⟩) 1 ac,.int .i64 1] E (0,0)) ∧
      w.heap.size≤kb∧w'.heap[kb]? = some (.cells karr kE kf)∧karr[ko]? = some (.int .u32 K)∧w.heap.size≤ab∧w'.heap[ab]? = some (.cells aarr aE af)∧aarr[ao]? = some (.int .i64 0):=by
  obtain ⟨hd,hN,S,β,hm⟩:=h
  have val:∀ x,x < N→a'.tmps[x]? = some (a'.tmps.getD x undef):=fun x hx=>by
    rw [Array.getD_eq_getD_getElem?,Array.getElem?_eq_getElem (by omega)]
    rfl
  have getr:∀ (r:List (Nat×Value)),(r.map (·.1)).Nodup→∀ z∈r,fget (r.map fun z=>(z.1,AV.d (.v z.2))) z.1=.d (.v z.2):=by
    intro r hn z hz
    induction r with
    | nil=>cases hz
    | cons y r ih =>
      simp only [List.map_cons,List.nodup_cons,List.mem_map,not_exists,not_and] at hn
      simp only [List.map_cons,fget]
      rcases List.mem_cons.1 hz with rfl | hz
      · simp
      · have:y.1≠z.1:=fun e=>hn.1 z hz e.symm
        rw [if_neg (by simpa using this)]
        exact ih hn.2 hz
  have hβ:β (virtBase,0)=.pointer (some ⟨X,0,none⟩):=by
    obtain ⟨u,h3,h4⟩:=hm.rel virtBase
    have h5:fget (frX [[.v (.int .u32 K)]] [[.v (.int .i64 0)]] r) virtBase=.box [.own 49 1 [[.v (.int .u32 K)]],.own 3 1 [[.v (.int .i64 0)]],.d (.v (.int .i64 1))]:=rfl
    rw [h5] at h3
    have hz:a'.tmps[virtBase]? = none:=Array.getElem?_eq_none (by rw [hN]; exact Nat.le_trans hNv (by decide))
    have hvp:valsOf (envX w X) a' virtBase=some (.pointer (some ⟨X,0,none⟩)):=by
      simp only [valsOf,hz]
      rfl
    rw [← h3.1,← h4 _ hvp]
  refine ⟨hd,hN,fun z hz=>?_,fun h11=>?_,⟨hm.os,hm.tape,hm.output,hm.size,fun k hk hne=>hm.old k hk hne⟩,?_⟩
  · obtain ⟨h1,h2⟩:=hr z hz
    obtain ⟨u,h3,h4⟩:=hm.rel z.1
    have h5:fget (frX [[.v (.int .u32 K)]] [[.v (.int .i64 0)]] r) z.1=.d (.v z.2):=by
      rw [frX,fget,if_neg (by have:virtBase≠z.1:=Nat.ne_of_gt (Nat.lt_of_lt_of_le h2 (Nat.le_trans hNv (by decide))); simpa using this),fget,if_neg (by simpa using fun e=>h1 e.symm)]
      exact getr r hn z hz
    rw [h5] at h3
    have h6:u=z.2:=h3.1
    have h7:=h4 _ (valsOf_lt (val z.1 h2))
    rw [val z.1 h2,h7,h6]
  · obtain ⟨u,h3,h4⟩:=hm.rel 11
    have h5:fget (frX [[.v (.int .u32 K)]] [[.v (.int .i64 0)]] r) 11=.bp virtBase 0:=rfl
    rw [h5] at h3
    obtain ⟨b,h6,h7⟩:=h3
    rw [hβ] at h6
    cases h6
    rw [val 11 h11,h4 _ (valsOf_lt (val 11 h11)),h7]
  · obtain ⟨u,h3,_⟩:=hm.rel virtBase
    have h5:fget (frX [[.v (.int .u32 K)]] [[.v (.int .i64 0)]] r) virtBase=.box [.own 49 1 [[.v (.int .u32 K)]],.own 3 1 [[.v (.int .i64 0)]],.d (.v (.int .i64 1))]:=rfl
    have own0:∀ i,i=0∨i=1∨i=2→(fget (frX [[.v (.int .u32 K)]] [[.v (.int .i64 0)]] r) virtBase).ownsAt i=true:=by
      rintro i (rfl | rfl | rfl) <;> rfl
    have fresh:∀ i b,i=1∨i=2→blk (β (virtBase,i))=some b→w.heap.size≤b:=by
      intro i b hi hb
      rcases (hm.fre virtBase i b (own0 i (.inr hi)) hb).2 with h | h
      · exact h
      · have hbX:b=X:=h
        have:=(hm.dis virtBase i virtBase 0 b (own0 i (.inr hi)) (own0 0 (.inl rfl)) hb (by rw [hβ,hbX]; rfl)).2
        omega
    rw [h5] at h3
    obtain ⟨e1,b,l,E,e2,e3,hp⟩:=h3
    rw [e1,hβ] at e2
    cases e2
    match l,hp with
    | [c0,c1,c2],hp =>
      obtain ⟨⟨q1,q2⟩,⟨q3,q4⟩,q5,_⟩:=hp
      have e5:c2=.int .i64 1:=q5.1
      subst e5
      rcases q2 with ⟨_,q2⟩ | ⟨kb,ko,kc,karr,kE,kf,k1,_,_,_,k2,_,k3⟩
      · cases q2
      rcases q4 with ⟨_,q4⟩ | ⟨ab,ao,ac,aarr,aE,af,a1,_,_,_,a2,_,a3⟩
      · cases q4
      obtain ⟨_,⟨⟨u1,z1,z2⟩,_⟩,_⟩:=k3
      obtain ⟨_,⟨⟨u2,z3,z4⟩,_⟩,_⟩:=a3
      have z5:u1=.int .u32 K:=z2.1
      have z6:u2=.int .i64 0:=z4.1
      subst z5 z6
      refine ⟨kb,ko,kc,karr,kE,kf,ab,ao,ac,aarr,aE,af,E,?_,fresh 1 kb (.inl rfl) (by rw [← q1,k1]; rfl),k2,z1,fresh 2 ab (.inr rfl) (by rw [← q3,a1]; rfl),a2,z3⟩
      rw [e3,k1,a1]
      rfl
    | [],hp=>exact hp.elim
    | [_],hp=>exact hp.2.elim
    | [_,_],hp=>exact hp.2.2.elim
    | _ :: _ :: _ :: _ :: _,hp=>exact hp.2.2.2.elim
theorem St.other {W w w':World} {mp mq:Obj} {ord:Value} {X:Nat} (h:St W w mp mq ord) (hk:Kept1 X w w') (hX:W.heap.size+3≤X):St W w' mp mq ord:=by
  obtain ⟨h1,h2,h3,h4⟩:=h
  have s2:=heap_lt h2
  have s3:=heap_lt h3
  have s4:=heap_lt h4
  exact ⟨⟨hk.os.trans h1.os,hk.tape.trans h1.tape,hk.output.trans h1.output,Nat.le_trans h1.size hk.size,fun k hlt=>(hk.block k (Nat.lt_of_lt_of_le hlt h1.size) (by omega)).trans (h1.block k hlt)⟩,
    (hk.block _ s2 (by omega)).trans h2,(hk.block _ s3 (by omega)).trans h3,(hk.block _ s4 (by omega)).trans h4⟩
theorem St.name {W w:World} {mp mq mq':Obj} {ord:Value} (h:St W w mp mq ord):St W (setO w (W.heap.size+1) mq') mp mq' ord:=by
  obtain ⟨h1,h2,h3,h4⟩:=h
  have k:=Kept1.setO w (W.heap.size+1) mq'
  exact ⟨⟨k.os.trans h1.os,k.tape.trans h1.tape,k.output.trans h1.output,Nat.le_trans h1.size k.size,fun i hlt=>(k.block i (Nat.lt_of_lt_of_le hlt h1.size) (by omega)).trans (h1.block i hlt)⟩,
    (k.block _ (heap_lt h2) (by omega)).trans h2,setO_get (heap_lt h3) _,(k.block _ (heap_lt h4) (by omega)).trans h4⟩
theorem St.frozen {W w:World} {mp mq:Obj} {ord:Value} (h:St W w mp mq ord) (i:Nat):w.frozen? ⟨W.heap.size+2,i,none⟩=false:=by
  simp [World.frozen?,h.hx]
theorem setCell_get (w:World) (b i:Nat) (u:Value) {arr:Array Value} {E:TypeId} {fz:Nat×Nat} (h:w.heap[b]? = some (.cells arr E fz)):(w.setCell ⟨b,i,none⟩ u).heap[b]? = some (.cells (arr.setIfInBounds i u) E fz):=by
  unfold World.setCell
  simp [Array.getElem?_modify,h]
theorem St.list {W w:World} {mp mq:Obj} {ord:Value} (h:St W w mp mq ord) (o1 o2:Obj) (v:Value) :
    St W (((w.alloc o1).alloc o2).setCell ⟨W.heap.size+2,2,none⟩ v).drew mp mq v∧∀ k,k < w.heap.size→k≠W.heap.size+2→(((w.alloc o1).alloc o2).setCell ⟨W.heap.size+2,2,none⟩ v).drew.heap[k]? = w.heap[k]? := by
  have h2:St W ((w.alloc o1).alloc o2) mp mq ord:=h.next (((Below.refl _ _).alloc (Nat.le_refl _) o1).alloc (by simp) o2)
  have key:∀ k,k≠W.heap.size+2→(((w.alloc o1).alloc o2).setCell ⟨W.heap.size+2,2,none⟩ v).drew.heap[k]? = ((w.alloc o1).alloc o2).heap[k]? := fun k hk=>Below.heap_setCell _ _ _ _ hk
  have hsz:(((w.alloc o1).alloc o2).setCell ⟨W.heap.size+2,2,none⟩ v).drew.heap.size=((w.alloc o1).alloc o2).heap.size:=by simp [World.setCell,World.drew]
  refine ⟨⟨⟨h2.below.os,h2.below.tape,h2.below.output,by rw [hsz]; exact h2.below.size,fun k hk=>(key k (by omega)).trans (h2.below.block k hk)⟩,(key _ (by omega)).trans h2.hp,(key _ (by omega)).trans h2.hq,setCell_get _ _ _ _ h2.hx⟩,fun k hk hne=>(key k hne).trans ?_⟩
  exact (((Below.refl _ _).alloc (Nat.le_refl _) o1).alloc (by simp) o2:Below w.heap.size w _).block k hk
/-- The archive behind the law's first Put. -/
def Done (W w:World):Prop:=∃ pb pc parr pE pf kb ko kc karr kE kf ab ao ac aarr aE af ord,St W w (.map #[⟨.int .u32 2363233923,.slice (some ⟨pb,0,none⟩) 1 pc,0⟩] 1) (.map #[⟨.string ⟨#[97]⟩,.agg #[.slice (some ⟨kb,ko,none⟩) 1 kc,.slice (some ⟨ab,ao,none⟩) 1 ac,.int .i64 1],0⟩] 1) ord ∧
  w.heap[pb]? = some (.cells parr pE pf)∧parr[0]? = some (.string ⟨#[120]⟩)∧w.heap[kb]? = some (.cells karr kE kf)∧karr[ko]? = some (.int .u32 2363233923)∧w.heap[ab]? = some (.cells aarr aE af)∧aarr[ao]? = some (.int .i64 0)
theorem lit93 (t:Array Value) (h:t.size=93):∃ J:Nat→Value,t=((List.range 93).map J).toArray∧∀ i v,t[i]? = some v→J i=v:=by
  refine ⟨fun i=>t.getD i undef,?_,fun i v hv=>by simp [Array.getD_eq_getD_getElem?,hv]⟩
  apply Array.ext'
  apply List.ext_getElem?
  intro i
  rcases Nat.lt_or_ge i 93 with hi | hi
  · rw [List.getElem?_map,List.getElem?_range hi,Array.getElem?_toList,Array.getElem?_eq_getElem (by omega),Option.map_some,Array.getD_eq_getD_getElem?,Array.getElem?_eq_getElem (by omega)]
    rfl
  · rw [List.getElem?_eq_none (by simpa [h] using hi),List.getElem?_eq_none (by simpa using hi)]
end Go.Vm.ArcG
