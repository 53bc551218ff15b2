/-
  FOLD,PLAIN,part 4: a fold of the grid is a fold on the table.
-/
import Derived.Test.YteidenpelbooeaaBinLc
namespace Go.Vm.BinG
def lf (L:List Lf) (i:Nat):Lf:=(L[i]?).getD ⟨0,0,false,false,0⟩
theorem lf_some {L:List Lf} {i:Nat} {l:Lf} (h:L[i]? = some l):lf L i=l:=by simp [lf,h]
/-- What is told of leaf i. -/
def leafOf (C:Nat) (L:List Lf) (i:Nat):S_FoldLeaf:=⟨((i % C:Nat):Int),((i / C:Nat):Int),(lf L i).fx,(lf L i).fy⟩
def hOf (L:List Lf) (i:Nat):Int:=(lf L i).h
/-- The pile g holds the leaves of a place,from top to bottom. -/
structure Pl (C:Nat) (L:List Lf) (I:List Nat) (X Y:Int) (g:List S_FoldLeaf):Prop where
  g:g=I.map (leafOf C L)
  srt:I.Pairwise (fun i j=>hOf L j < hOf L i)
  mem:∀ i,i∈I↔∃ l,L[i]? = some l∧l.x=X∧l.y=Y
structure Inv (C N cols rows:Nat) (G:Nat→Nat→List S_FoldLeaf) (L:List Lf) (X0 Y0 p:Int) (q:Nat):Prop where
  len:L.length=N
  hN:N≤32
  hc:1≤cols∧cols≤8
  hr:1≤rows∧rows≤8
  box:∀ l∈L,(X0≤l.x∧l.x < X0+cols)∧Y0≤l.y∧l.y < Y0+rows
  pile:∀ c r,c < cols→r < rows→∃ I,I≠[]∧Pl C L I (X0+c) (Y0+r) (G c r)
  bX : -p≤X0∧X0≤p
  bY : -p≤Y0∧Y0≤p
  bh:∀ l∈L,-p≤l.h∧l.h≤p
  bp:8≤p
  bG:∀ c r,c < cols→r < rows→(G c r).length≤q
def oth (s:S_FoldStep) (l:Lf):Int:=if acr s then l.y else l.x
theorem crd_refl (s:S_FoldStep) (line lo hi:Int) (l:Lf):crd s (refl1 s line lo hi l)=2 * line - crd s l - 1:=by
  unfold crd refl1
  cases acr s <;> rfl
theorem oth_refl (s:S_FoldStep) (line lo hi:Int) (l:Lf):oth s (refl1 s line lo hi l)=oth s l:=by
  unfold oth refl1
  cases acr s <;> rfl
theorem xy_iff (s:S_FoldStep) (l:Lf) (X Y:Int):(l.x=X∧l.y=Y)↔(crd s l=(if acr s then X else Y)∧oth s l=(if acr s then Y else X)):=by
  unfold crd oth
  cases acr s
  · simp [and_comm]
  · simp
/-- A place told by the coordinate of a fold. -/
structure PlU (s:S_FoldStep) (C:Nat) (L:List Lf) (I:List Nat) (U V:Int) (g:List S_FoldLeaf):Prop where
  g:g=I.map (leafOf C L)
  srt:I.Pairwise (fun i j=>hOf L j < hOf L i)
  mem:∀ i,i∈I↔∃ l,L[i]? = some l∧crd s l=U∧oth s l=V
section
variable {C N cols rows:Nat} {G:Nat→Nat→List S_FoldLeaf} {L:List Lf} {X0 Y0 p:Int} {q:Nat} {s:S_FoldStep}
theorem pile_any (inv:Inv C N cols rows G L X0 Y0 p q) (c r:Int):∃ I,(0≤c∧0≤r∧c < cols∧r < rows→I≠[])∧Pl C L I (X0+c) (Y0+r) (pileI cols rows G c r):=by
  by_cases h:0≤c∧0≤r∧c < cols∧r < rows
  · obtain ⟨I,h0,hp⟩:=inv.pile c.toNat r.toNat (by omega) (by omega)
    rw [Int.toNat_of_nonneg h.1,Int.toNat_of_nonneg h.2.1] at hp
    refine ⟨I,fun _=>h0,?_⟩
    unfold pileI
    rw [if_pos h]
    exact hp
  · refine ⟨[],fun h'=>absurd h' h,?_⟩
    unfold pileI
    rw [if_neg h]
    refine ⟨rfl,List.Pairwise.nil,fun i=>⟨fun h'=>by simp at h',fun ⟨l,hl,hx,hy⟩=>?_⟩⟩
    have:=inv.box l (List.mem_of_getElem? hl)
    omega
theorem pick_any (inv:Inv C N cols rows G L X0 Y0 p q) (c r:Nat) (ho:if acr s then r < rows else c < cols) (j:Int) :
    ∃ I,(0≤j∧j < ext s cols rows→I≠[])∧PlU s C L I ((if acr s then X0 else Y0)+j) (if acr s then Y0+r else X0+c) (pick s cols rows G c r j):=by
  cases ha:acr s
  · obtain ⟨I,h0,hp⟩:=pile_any inv c j
    rw [ha] at ho
    simp only [Bool.false_eq_true,if_false] at ho ⊢
    refine ⟨I,fun h=>h0 ?_,?_⟩
    · simp only [ext,ha,Bool.false_eq_true,if_false] at h
      omega
    · simp only [pick,ha,Bool.false_eq_true,if_false]
      refine ⟨hp.g,hp.srt,fun i=>(hp.mem i).trans ?_⟩
      constructor
      · rintro ⟨l,hl,hx,hy⟩
        exact ⟨l,hl,by simpa [crd,ha] using hy,by simpa [oth,ha] using hx⟩
      · rintro ⟨l,hl,hx,hy⟩
        exact ⟨l,hl,by simpa [oth,ha] using hy,by simpa [crd,ha] using hx⟩
  · obtain ⟨I,h0,hp⟩:=pile_any inv j r
    rw [ha] at ho
    simp only [if_true] at ho ⊢
    refine ⟨I,fun h=>h0 ?_,?_⟩
    · simp only [ext,ha,if_true] at h
      omega
    · simp only [pick,ha,if_true]
      refine ⟨hp.g,hp.srt,fun i=>(hp.mem i).trans ?_⟩
      constructor
      · rintro ⟨l,hl,hx,hy⟩
        exact ⟨l,hl,by simpa [crd,ha] using hx,by simpa [oth,ha] using hy⟩
      · rintro ⟨l,hl,hx,hy⟩
        exact ⟨l,hl,by simpa [crd,ha] using hx,by simpa [oth,ha] using hy⟩
/-- Where the folded sheet begins. -/
def bas (s:S_FoldStep) (n U:Int):Int:=if fst s then U+s.f1 else U+s.f1 - siz s n
def lin (s:S_FoldStep) (X0 Y0:Int):Int:=(if acr s then X0 else Y0)+s.f1
theorem lf_map (L:List Lf) (f:Lf→Lf) (i:Nat) (l:Lf) (h:L[i]? = some l):lf (L.map f) i=f l:=by
  simp [lf,List.getElem?_map,h]
theorem new_pile (inv:Inv C N cols rows G L X0 Y0 p q) (hs:Good s cols rows) {lo hi:Int} (hlh:∀ l∈L,lo≤l.h∧l.h≤hi) (c r:Nat) (hc:c < nCols s cols rows) (hr:r < nRows s cols rows) :
    ∃ I,I≠[]∧PlU s C (L.map (upd s (lin s X0 Y0) lo hi)) I (bas s (ext s cols rows) (if acr s then X0 else Y0)+(if acr s then (c:Int) else r)) (if acr s then Y0+r else X0+c) (newG s cols rows G c r):=by
  have hsp:=siz_pos hs
  have hl1:=hs.line
  obtain ⟨i0,hi0⟩:∃ i0:Int,(if acr s then (c:Int) else (r:Int))=i0:=⟨_,rfl⟩
  have hi0b:0≤i0∧i0 < siz s (ext s cols rows):=by
    rw [← hi0]
    unfold nCols at hc
    unfold nRows at hr
    cases ha:acr s <;> simp only [ha,Bool.false_eq_true,if_false,if_true] at hc hr ⊢ <;> omega
  have ho:if acr s then r < rows else c < cols:=by
    unfold nCols at hc
    unfold nRows at hr
    cases ha:acr s <;> simp only [ha,Bool.false_eq_true,if_false,if_true] at hc hr ⊢ <;> omega
  obtain ⟨i,hii⟩:∃ i,idx s (ext s cols rows) i0=i:=⟨_,rfl⟩
  have hib:0≤i∧i < siz s (ext s cols rows):=by
    rw [← hii]; unfold idx; split <;> omega
  obtain ⟨U0,hU0⟩:∃ U0:Int,(if acr s then X0 else Y0)=U0:=⟨_,rfl⟩
  obtain ⟨Im,hm0,hm⟩:=pick_any (s:=s) inv c r ho (mvI s i)
  obtain ⟨If,hf0,hf⟩:=pick_any (s:=s) inv c r ho (fxI s i)
  obtain ⟨V,hV⟩:∃ V:Int,(if acr s then Y0+(r:Int) else X0+(c:Int))=V:=⟨_,rfl⟩
  rw [hU0,hV] at hm hf
  rw [hU0,hi0,hV]
  have hlin:lin s X0 Y0=U0+s.f1:=by unfold lin; rw [hU0]
  rw [hlin]
  -- what is moved
  have mvd:∀ l,crd s l=U0+mvI s i→moved s (U0+s.f1) l=true:=by
    intro l h
    unfold moved
    rw [h]
    unfold mvI
    cases fst s <;> simp <;> omega
  have fxd:∀ l,crd s l=U0+fxI s i→moved s (U0+s.f1) l=false:=by
    intro l h
    unfold moved
    rw [h]
    unfold fxI
    cases fst s <;> simp <;> omega
  have um:∀ a,a∈Im→∃ l,L[a]? = some l∧lf (L.map (upd s (U0+s.f1) lo hi)) a=refl1 s (U0+s.f1) lo hi l:=by
    intro a ha
    obtain ⟨l,hl,hu,hv⟩:=(hm.mem a).1 ha
    refine ⟨l,hl,?_⟩
    rw [lf_map _ _ _ _ hl,upd,if_pos (mvd l hu)]
  have uf:∀ a,a∈If→∃ l,L[a]? = some l∧lf (L.map (upd s (U0+s.f1) lo hi)) a=l:=by
    intro a ha
    obtain ⟨l,hl,hu,hv⟩:=(hf.mem a).1 ha
    refine ⟨l,hl,?_⟩
    rw [lf_map _ _ _ _ hl,upd,if_neg (by simp [fxd l hu])]
  have eG:newG s cols rows G c r=(if s.f2 then Im.reverse++If else If++Im.reverse).map (leafOf C (L.map (upd s (U0+s.f1) lo hi))):=by
    have e1:flp (acr s) (pick s cols rows G c r (mvI s i))=Im.reverse.map (leafOf C (L.map (upd s (U0+s.f1) lo hi))):=by
      rw [hm.g,flp,← List.map_reverse,List.map_map]
      apply List.map_congr_left
      intro a ha
      obtain ⟨l,hl,e⟩:=um a (by simpa using ha)
      simp only [Function.comp,leafOf,e,lf_some hl,refl1]
      cases acr s <;> rfl
    have e2:pick s cols rows G c r (fxI s i)=If.map (leafOf C (L.map (upd s (U0+s.f1) lo hi))):=by
      rw [hf.g]
      apply List.map_congr_left
      intro a ha
      obtain ⟨l,hl,e⟩:=uf a ha
      simp only [leafOf,e,lf_some hl]
    unfold newG
    rw [hi0,hii]
    simp only
    rw [e1,e2]
    split <;> simp
  have srtm:Im.reverse.Pairwise (fun a b=>hOf (L.map (upd s (U0+s.f1) lo hi)) b < hOf (L.map (upd s (U0+s.f1) lo hi)) a):=by
    rw [List.pairwise_reverse]
    refine hm.srt.imp_of_mem ?_
    intro a b ha hb hlt
    obtain ⟨l,hl,e⟩:=um a ha
    obtain ⟨l',hl',e'⟩:=um b hb
    unfold hOf at hlt ⊢
    rw [e,e']
    rw [lf_some hl,lf_some hl'] at hlt
    unfold refl1
    simp only
    split <;> omega
  have srtf:If.Pairwise (fun a b=>hOf (L.map (upd s (U0+s.f1) lo hi)) b < hOf (L.map (upd s (U0+s.f1) lo hi)) a):=by
    refine hf.srt.imp_of_mem ?_
    intro a b ha hb hlt
    obtain ⟨l,hl,e⟩:=uf a ha
    obtain ⟨l',hl',e'⟩:=uf b hb
    unfold hOf at hlt ⊢
    rw [e,e']
    rwa [lf_some hl,lf_some hl'] at hlt
  have cross:∀ a∈Im,∀ b∈If,if s.f2 then hOf (L.map (upd s (U0+s.f1) lo hi)) b < hOf (L.map (upd s (U0+s.f1) lo hi)) a else hOf (L.map (upd s (U0+s.f1) lo hi)) a < hOf (L.map (upd s (U0+s.f1) lo hi)) b:=by
    intro a ha b hb
    obtain ⟨l,hl,e⟩:=um a ha
    obtain ⟨l',hl',e'⟩:=uf b hb
    have b1:=hlh l (List.mem_of_getElem? hl)
    have b2:=hlh l' (List.mem_of_getElem? hl')
    unfold hOf
    rw [e,e']
    unfold refl1
    cases s.f2 <;> simp <;> omega
  have memU:∀ a,(a∈Im∨a∈If)↔∃ l,(L.map (upd s (U0+s.f1) lo hi))[a]? = some l∧crd s l=bas s (ext s cols rows) U0+i0∧oth s l=V:=by
    intro a
    have hcell:bas s (ext s cols rows) U0+i0=if fst s then U0+s.f1+i else U0+s.f1 - 1 - i:=by
      rw [← hii]
      unfold bas idx
      cases fst s <;> simp <;> omega
    rw [hcell]
    constructor
    · rintro (ha | ha)
      · obtain ⟨l,hl,hu,hv⟩:=(hm.mem a).1 ha
        refine ⟨refl1 s (U0+s.f1) lo hi l,by rw [List.getElem?_map,hl]; simp [upd,mvd l hu],?_,by rw [oth_refl]; exact hv⟩
        rw [crd_refl,hu]
        unfold mvI
        cases fst s <;> simp <;> omega
      · obtain ⟨l,hl,hu,hv⟩:=(hf.mem a).1 ha
        refine ⟨l,by rw [List.getElem?_map,hl]; simp [upd,fxd l hu],?_,hv⟩
        rw [hu]
        unfold fxI
        cases fst s <;> simp <;> omega
    · rintro ⟨l',hl',hu,hv⟩
      rw [List.getElem?_map] at hl'
      obtain ⟨l,hl,rfl⟩:=Option.map_eq_some_iff.1 hl'
      cases hmv:moved s (U0+s.f1) l
      · right
        simp only [upd,hmv,Bool.false_eq_true,if_false] at hu hv
        refine (hf.mem a).2 ⟨l,hl,?_,hv⟩
        rw [hu]
        unfold moved at hmv
        unfold fxI
        rw [hu] at hmv
        cases hfs:fst s <;> simp [hfs] at hmv ⊢ <;> omega
      · left
        simp only [upd,hmv,if_true] at hu hv
        rw [crd_refl] at hu
        rw [oth_refl] at hv
        refine (hm.mem a).2 ⟨l,hl,?_,hv⟩
        unfold mvI
        cases hfs:fst s <;> simp [hfs] at hu ⊢ <;> omega
  refine ⟨if s.f2 then Im.reverse++If else If++Im.reverse,?_,eG,?_,?_⟩
  · -- not empty
    have:Im≠[]∨If≠[]:=by
      by_cases h:0≤mvI s i∧mvI s i < ext s cols rows
      · exact .inl (hm0 h)
      · refine .inr (hf0 ?_)
        have hsz:siz s (ext s cols rows)=if s.f1 < ext s cols rows - s.f1 then ext s cols rows - s.f1 else s.f1:=rfl
        rw [hsz] at hib
        unfold mvI at h
        unfold fxI
        cases hfs:fst s <;> simp only [hfs,Bool.false_eq_true,if_false,if_true] at h ⊢ <;> split at hib <;> omega
    split
    · rcases this with h | h <;> simp [h]
    · rcases this with h | h <;> simp [h]
  · cases hf2:s.f2
    · simp only [Bool.false_eq_true,if_false]
      refine List.pairwise_append.2 ⟨srtf,srtm,fun a ha b hb=>?_⟩
      have:=cross b (by simpa using hb) a ha
      simpa [hf2] using this
    · simp only [if_true]
      refine List.pairwise_append.2 ⟨srtm,srtf,fun a ha b hb=>?_⟩
      have:=cross a (by simpa using ha) b hb
      simpa [hf2] using this
  · intro a
    rw [← memU a]
    split <;> simp [or_comm]
def nX (s:S_FoldStep) (cols rows:Nat) (X0:Int):Int:=if acr s then bas s (ext s cols rows) X0 else X0
def nY (s:S_FoldStep) (cols rows:Nat) (Y0:Int):Int:=if acr s then Y0 else bas s (ext s cols rows) Y0
/-- A fold keeps the two sheets together. -/
theorem Inv.fold (inv:Inv C N cols rows G L X0 Y0 p q) (hs:Good s cols rows) {lo hi:Int} (hlh:∀ l∈L,lo≤l.h∧l.h≤hi) (hb : -p≤lo∧lo≤p ∧ -p≤hi∧hi≤p) :
    Inv C N (nCols s cols rows) (nRows s cols rows) (newG s cols rows G) (L.map (upd s (lin s X0 Y0) lo hi)) (nX s cols rows X0) (nY s cols rows Y0) (4 * p) (2 * q):=by
  have hsp:=siz_pos hs
  have hl1:=hs.line
  have hc:=inv.hc
  have hr:=inv.hr
  have hbp:=inv.bp
  have hbX:=inv.bX
  have hbY:=inv.bY
  have hext:ext s cols rows≤8:=by unfold ext; split <;> omega
  have hszd:siz s (ext s cols rows)=if s.f1 < ext s cols rows - s.f1 then ext s cols rows - s.f1 else s.f1:=rfl
  constructor
  · simp [inv.len]
  · exact inv.hN
  · unfold nCols; split <;> omega
  · unfold nRows; split <;> omega
  · intro l' hl'
    obtain ⟨l,hl,rfl⟩:=List.mem_map.1 hl'
    have hbx:=inv.box l hl
    have hu:∀ U0:Int,U0≤crd s l→crd s l < U0+ext s cols rows→bas s (ext s cols rows) U0≤crd s (upd s (U0+s.f1) lo hi l)∧crd s (upd s (U0+s.f1) lo hi l) < bas s (ext s cols rows) U0+siz s (ext s cols rows):=by
      intro U0 h1 h2
      have hm:moved s (U0+s.f1) l=(decide (crd s l < U0+s.f1) == fst s):=rfl
      unfold upd bas
      rw [hm]
      by_cases hlt:crd s l < U0+s.f1
      · cases hfs:fst s
        · simp [hlt]
          split at hszd <;> omega
        · simp [hlt,crd_refl]
          split at hszd <;> omega
      · cases hfs:fst s
        · simp [hlt,crd_refl]
          split at hszd <;> omega
        · simp [hlt]
          split at hszd <;> omega
    have hv:∀ line,oth s (upd s line lo hi l)=oth s l:=by
      intro line
      unfold upd
      split
      · exact oth_refl _ _ _ _ _
      · rfl
    cases ha:acr s
    · have h1:=hu Y0 (by simp [crd,ha]; omega) (by simp [crd,ext,ha]; omega)
      have h2:=hv (Y0+s.f1)
      have e:lin s X0 Y0=Y0+s.f1:=by simp [lin,ha]
      rw [e]
      simp only [crd,oth,ha,Bool.false_eq_true,if_false] at h1 h2
      simp only [nX,nY,nCols,nRows,ha,Bool.false_eq_true,if_false]
      rw [h2,Int.toNat_of_nonneg (by omega)]
      exact ⟨hbx.1,h1⟩
    · have h1:=hu X0 (by simp [crd,ha]; omega) (by simp [crd,ext,ha]; omega)
      have h2:=hv (X0+s.f1)
      have e:lin s X0 Y0=X0+s.f1:=by simp [lin,ha]
      rw [e]
      simp only [crd,oth,ha,if_true] at h1 h2
      simp only [nX,nY,nCols,nRows,ha,if_true]
      rw [h2,Int.toNat_of_nonneg (by omega)]
      exact ⟨h1,hbx.2⟩
  · intro c r hc' hr'
    obtain ⟨I,h0,hp⟩:=new_pile inv hs hlh c r hc' hr'
    refine ⟨I,h0,hp.g,hp.srt,fun i=>(hp.mem i).trans ?_⟩
    constructor
    · rintro ⟨l,hl,hu,hv⟩
      refine ⟨l,hl,(xy_iff s l _ _).2 ?_⟩
      unfold nX nY
      cases ha:acr s <;> simp only [ha,Bool.false_eq_true,if_false,if_true] at hu hv ⊢ <;> exact ⟨hu,hv⟩
    · rintro ⟨l,hl,hxy⟩
      have:=(xy_iff s l _ _).1 hxy
      refine ⟨l,hl,?_⟩
      unfold nX nY at this
      cases ha:acr s <;> simp only [ha,Bool.false_eq_true,if_false,if_true] at this ⊢ <;> exact this
  · unfold nX bas
    split
    · split <;> omega
    · omega
  · unfold nY bas
    split
    · omega
    · split <;> omega
  · intro l' hl'
    obtain ⟨l,hl,rfl⟩:=List.mem_map.1 hl'
    have:=inv.bh l hl
    unfold upd
    split
    · unfold refl1
      simp only
      split <;> omega
    · omega
  · omega
  · intro c r _ _
    exact newG_length inv.bG c r
theorem mnA_fold:∀ (l:List Int) (a i:Int),(∀ v∈l,a≤v)→a≤i→(a=i∨a∈l)→l.foldl mnA i=a
  | [],a,i,_,_,h=>by
    rcases h with h | h
    · exact h.symm
    · simp at h
  | v :: l,a,i,h1,h2,h=>by
    have hv:=h1 v (by simp)
    refine mnA_fold l a (mnA i v) (fun u hu=>h1 u (by simp [hu])) (by unfold mnA; split <;> omega) ?_
    rcases h with rfl | h
    · left; unfold mnA; split <;> omega
    · rcases List.mem_cons.1 h with rfl | h
      · left; unfold mnA; split <;> omega
      · exact .inr h
theorem mxA_fold:∀ (l:List Int) (a i:Int),(∀ v∈l,v≤a)→i≤a→(a=i∨a∈l)→l.foldl mxA i=a
  | [],a,i,_,_,h=>by
    rcases h with h | h
    · exact h.symm
    · simp at h
  | v :: l,a,i,h1,h2,h=>by
    have hv:=h1 v (by simp)
    refine mxA_fold l a (mxA i v) (fun u hu=>h1 u (by simp [hu])) (by unfold mxA; split <;> omega) ?_
    rcases h with rfl | h
    · left; unfold mxA; split <;> omega
    · rcases List.mem_cons.1 h with rfl | h
      · left; unfold mxA; split <;> omega
      · exact .inr h
theorem Inv.at (inv:Inv C N cols rows G L X0 Y0 p q) (c r:Nat) (hc:c < cols) (hr:r < rows):∃ l∈L,l.x=X0+c∧l.y=Y0+r:=by
  obtain ⟨I,h0,hp⟩:=inv.pile c r hc hr
  obtain ⟨i,hi⟩:=List.exists_mem_of_ne_nil I h0
  obtain ⟨l,hl,h⟩:=(hp.mem i).1 hi
  exact ⟨l,List.mem_of_getElem? hl,h⟩
theorem Inv.bounds (inv:Inv C N cols rows G L X0 Y0 p q) (hp:p≤600000) :
    (L.map Lf.x).foldl mnA 1048576=X0∧(L.map Lf.y).foldl mnA 1048576=Y0∧(L.map fun l=>l.x+1).foldl mxA (-1048576)=X0+cols∧(L.map fun l=>l.y+1).foldl mxA (-1048576)=Y0+rows:=by
  have hc:=inv.hc
  have hr:=inv.hr
  have hbX:=inv.bX
  have hbY:=inv.bY
  obtain ⟨l1,h1,hx1,hy1⟩:=inv.at 0 0 (by omega) (by omega)
  obtain ⟨l2,h2,hx2,hy2⟩:=inv.at (cols - 1) (rows - 1) (by omega) (by omega)
  refine ⟨mnA_fold _ _ _ ?_ (by omega) (.inr ?_),mnA_fold _ _ _ ?_ (by omega) (.inr ?_),mxA_fold _ _ _ ?_ (by omega) (.inr ?_),mxA_fold _ _ _ ?_ (by omega) (.inr ?_)⟩
  · intro v hv
    obtain ⟨l,hl,rfl⟩:=List.mem_map.1 hv
    have:=inv.box l hl
    omega
  · exact List.mem_map.2 ⟨l1,h1,by omega⟩
  · intro v hv
    obtain ⟨l,hl,rfl⟩:=List.mem_map.1 hv
    have:=inv.box l hl
    omega
  · exact List.mem_map.2 ⟨l1,h1,by omega⟩
  · intro v hv
    obtain ⟨l,hl,rfl⟩:=List.mem_map.1 hv
    have:=inv.box l hl
    omega
  · exact List.mem_map.2 ⟨l2,h2,by omega⟩
  · intro v hv
    obtain ⟨l,hl,rfl⟩:=List.mem_map.1 hv
    have:=inv.box l hl
    omega
  · exact List.mem_map.2 ⟨l2,h2,by omega⟩
/-- The reference's sheet,part by part. -/
def shT (L:List Lf) (X0 Y0 X1 Y1 C:Int):List Int×List Int×List Int×List Int×List Int×List Int×List Int×Int×Int×Int×Int×Int :=
  ((lists L).a,(lists L).b,(lists L).c,(lists L).d,(lists L).e,(lists L).f,(lists L).g,X0,Y0,X1,Y1,C)
theorem ref3_Sheet_Fold_eq {F:Nat} (hF:40≤F) (inv:Inv C N cols rows G L X0 Y0 p q) (hp:p≤140000) (hs:Good s cols rows) (Cc:Int) :
    ∃ L',ref3_Sheet_Fold F s (lists L).a (lists L).b (lists L).c (lists L).d (lists L).e (lists L).f (lists L).g X0 Y0 (X0+cols) (Y0+rows) Cc
        = some (shT L' (nX s cols rows X0) (nY s cols rows Y0) (nX s cols rows X0+(nCols s cols rows:Nat)) (nY s cols rows Y0+(nRows s cols rows:Nat)) Cc) ∧
      Inv C N (nCols s cols rows) (nRows s cols rows) (newG s cols rows G) L' (nX s cols rows X0) (nY s cols rows Y0) (4 * p) (2 * q):=by
  have hl1:=hs.line
  have hc:=inv.hc
  have hr:=inv.hr
  have hbX:=inv.bX
  have hbY:=inv.bY
  have hbp:=inv.bp
  have hN:=inv.hN
  have hlen:=inv.len
  have hext:ext s cols rows≤8:=by unfold ext; split <;> omega
  have hac:decide (s.f0 < 2)=acr s:=by
    have:=hs.side
    unfold acr
    rcases (by omega:s.f0=0∨s.f0=1∨s.f0=2∨s.f0=3) with h | h | h | h <;> rw [h] <;> rfl
  have hgl:(lists L).g.length=N:=by simp [lists,hlen]
  obtain ⟨lo,hi,e0,hlb,hall⟩:=ref3_Sheet_Fold_L0_eq F (lists L).g (H:=p) (by
    intro v hv
    obtain ⟨l,hl,rfl⟩:=List.mem_map.1 hv
    exact inv.bh l hl) (by omega) (lists L).g.length 0 F 0 0 (by omega) (by omega) (by omega) (by omega)
  have hlh:∀ l∈L,lo≤l.h∧l.h≤hi:=by
    intro l hl
    obtain ⟨j,hj⟩:=List.mem_iff_getElem?.1 hl
    exact hall j l.h (by omega) (by simp [lists,hj])
  have inv':=inv.fold hs hlh (by omega)
  refine ⟨_,?_,inv'⟩
  have hlinb : -1000000≤lin s X0 Y0∧lin s X0 Y0≤1000000:=by unfold lin; split <;> omega
  have e2:=ref3_Sheet_Fold_L2_eq F hac (lists L).g (line:=lin s X0 Y0) (lo:=lo) (hi:=hi) hlinb (by omega) (by omega) X0 Y0 (X0+cols) (Y0+rows) Cc L [] F (by omega) (by simp [lists]) (by omega) (by
    intro l hl
    have h1:=inv.box l hl
    have h2:=inv.bh l hl
    exact ⟨by omega,by omega,by omega⟩)
  have e4:=ref3_Sheet_Fold_L4_eq F (lists (L.map (upd s (lin s X0 Y0) lo hi))).g Cc (L.map (upd s (lin s X0 Y0) lo hi)) [] F 1048576 1048576 (-1048576) (-1048576) (by simp; omega) (by simp [lists]) (by simp [lists]; omega) (by
    intro l hl
    have h1:=inv'.box l hl
    have h2:=inv'.bh l hl
    have h3:=inv'.bX
    have h4:=inv'.bY
    have h5:=inv'.hc
    have h6:=inv'.hr
    exact ⟨by omega,by omega,by omega⟩)
  obtain ⟨b1,b2,b3,b4⟩:=inv'.bounds (by omega)
  simp only [List.nil_append,List.length_nil] at e2 e4
  rw [b1,b2,b3,b4] at e4
  have wl1:IntKind.i64.wrap (X0+s.f1)=X0+s.f1:=wrap_id (by omega)
  have wl2:IntKind.i64.wrap (Y0+s.f1)=Y0+s.f1:=wrap_id (by omega)
  have el:(bif decide (s.f0 < 2) then some (IntKind.i64.wrap (X0+s.f1)) else some (IntKind.i64.wrap (Y0+s.f1)))=some (lin s X0 Y0):=by
    rw [hac,wl1,wl2]
    unfold lin
    cases acr s <;> rfl
  unfold ref3_Sheet_Fold
  rw [el,call_some,show ref3_Sheet_Fold_L0 F (lists L).g F 0 0 0=some (lo,hi) from e0]
  simp only [call_some]
  rw [show (0:Int)=((0:Nat):Int) from rfl,e2]
  simp only [call_some]
  rw [e4]
  rfl
end
end Go.Vm.BinG
