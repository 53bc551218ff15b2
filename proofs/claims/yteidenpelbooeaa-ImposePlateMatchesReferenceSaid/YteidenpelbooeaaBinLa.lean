/-
  FOLD,PLAIN,part 1: the grid of piles.
-/
import Derived.Test.YteidenpelbooeaaVmC
import Derived.Test.YteidenpelbooeaaBinF
namespace Go.Vm.BinG
/-- A grid,row by row. -/
def grid {α:Type} (cols rows:Nat) (G:Nat→Nat→α):List α:=(List.range' 0 rows).flatMap fun r=>(List.range' 0 cols).map fun c=>G c r
theorem grid_succ {α:Type} (cols rows:Nat) (G:Nat→Nat→α):grid cols (rows+1) G=grid cols rows G++(List.range' 0 cols).map fun c=>G c rows:=by
  simp [grid,List.range'_concat]
theorem grid_length {α:Type} (cols rows:Nat) (G:Nat→Nat→α):(grid cols rows G).length=rows * cols:=by
  induction rows with
  | zero=>simp [grid]
  | succ n ih=>rw [grid_succ,List.length_append,ih]; simp [Nat.add_mul]
theorem grid_get {α:Type} (cols:Nat) (G:Nat→Nat→α) (c r:Nat) (hc:c < cols):∀ rows,r < rows→(grid cols rows G)[r * cols+c]? = some (G c r):=by
  intro rows
  induction rows with
  | zero=>intro h; omega
  | succ n ih =>
    intro h
    rw [grid_succ]
    by_cases hr:r < n
    · have:r * cols+c < n * cols:=Nat.lt_of_lt_of_le (by omega:_ < r * cols+cols) (by rw [← Nat.succ_mul]; exact Nat.mul_le_mul_right _ hr)
      rw [List.getElem?_append_left (by rw [grid_length]; exact this)]
      exact ih hr
    · have:r=n:=by omega
      subst this
      rw [List.getElem?_append_right (by rw [grid_length]; omega),grid_length,Nat.add_sub_cancel_left]
      simp [hc]
def mk (cols rows:Nat) (G:Nat→Nat→List S_FoldLeaf):S_fold_sheet:=⟨cols,rows,grid cols rows G⟩
def acr (s:S_FoldStep):Bool:=bif (s.f0 == (0:Int)) then true else (s.f0 == (1:Int))
def fst (s:S_FoldStep):Bool:=bif (s.f0 == (0:Int)) then true else (s.f0 == (2:Int))
theorem fold_across_eq (F:Nat) (s:S_FoldStep):fold_across F s=some (acr s):=rfl
theorem fold_sheet_extent_eq (F:Nat) (cols rows:Nat) (G:Nat→Nat→List S_FoldLeaf) (s:S_FoldStep):fold_sheet_extent F (mk cols rows G) s=some (if acr s then (cols:Int) else rows):=by
  unfold fold_sheet_extent
  rw [fold_across_eq]
  simp only [call_some]
  cases acr s <;> rfl
/-- The pile at a place; none outside. -/
def pileI (cols rows:Nat) (G:Nat→Nat→List S_FoldLeaf) (c r:Int):List S_FoldLeaf:=if 0≤c∧0≤r∧c < cols∧r < rows then G c.toNat r.toNat else []
theorem fold_sheet_pile_eq (F:Nat) {cols rows:Nat} (hc:cols≤8) (hr:rows≤8) (G:Nat→Nat→List S_FoldLeaf) (c r:Int):fold_sheet_pile F (mk cols rows G) c r=some (pileI cols rows G c r):=by
  show fold_sheet_pile F (S_fold_sheet.mk cols rows (grid cols rows G)) c r=_
  unfold fold_sheet_pile
  dsimp only
  rw [lett_eq]
  by_cases h:0≤c∧0≤r∧c < cols∧r < rows
  · obtain ⟨h1,h2,h3,h4⟩:=h
    have e1:decide (c < 0)=false:=by simp; omega
    have e2:decide (r < 0)=false:=by simp; omega
    have e3:decide (c ≥ (cols:Int))=false:=by simp; omega
    have e4:decide (r ≥ (rows:Int))=false:=by simp; omega
    simp only [e1,e2,e3,e4,cond_false]
    obtain ⟨cn,rfl⟩:=Int.eq_ofNat_of_zero_le h1
    obtain ⟨rn,rfl⟩:=Int.eq_ofNat_of_zero_le h2
    have hcn:cn < cols:=by omega
    have hrn:rn < rows:=by omega
    have hlt:rn * cols+cn < rows * cols:=Nat.lt_of_lt_of_le (by omega:_ < rn * cols+cols) (by rw [← Nat.succ_mul]; exact Nat.mul_le_mul_right _ hrn)
    have h64:rows * cols≤8 * 8:=Nat.mul_le_mul hr hc
    have ew:IntKind.i64.wrap (IntKind.i64.wrap ((rn:Int) * (cols:Int))+(cn:Int))=((rn * cols+cn:Nat):Int):=by
      have:((rn:Int) * (cols:Int))=((rn * cols:Nat):Int):=by simp
      have hle:rn * cols≤rows * cols:=Nat.mul_le_mul_right _ (by omega)
      rw [this,wrap_id (x:=((rn * cols:Nat):Int)) (by omega),wrap_id (by omega)]
      omega
    simp only [ew]
    rw [chk_pos (by rw [grid_length]; omega)]
    rw [Int.toNat_natCast,List.getD_eq_getElem?_getD,grid_get cols G cn rn hcn rows hrn]
    simp [pileI,hcn,hrn]
  · have:(bif (bif (bif (decide (c < (0:Int))) then true else (decide (r < (0:Int)))) then true else (decide (c ≥ (cols:Int)))) then true else (decide (r ≥ (rows:Int))))=true:=by
      by_cases e1:c < 0
      · simp [e1]
      · by_cases e2:r < 0
        · simp [e2]
        · by_cases e3:c ≥ (cols:Int)
          · simp [e3]
          · have e4:r ≥ (rows:Int):=by omega
            simp [e4]
    rw [this]
    simp [pileI,h]
theorem slices_Grow_FoldLeaf_eq (F:Nat) {n:Int} (h0:0≤n) (h1:n≤1000000):slices_Grow_FoldLeaf F n=some []:=by
  unfold slices_Grow_FoldLeaf
  have e1:decide (n < 0)=false:=by simp; omega
  have ew:IntKind.i64.wrap (n - IntKind.i64.wrap ((0:Int) - (([]:List Int).length:Int)))=n:=by
    simp only [List.length_nil]
    rw [wrap_id (x:=(0:Int) - ((0:Nat):Int)) (by omega),wrap_id (by omega)]
    omega
  simp only [e1,cond_false,lett_eq,ew]
  by_cases h:n > 0
  · have e2:decide (n > 0)=true:=by simpa using h
    simp only [e2,cond_true,List.length_nil]
    rw [chk_pos (by omega),chk_pos (by omega),chk_pos (by simp; omega)]
    simp [call]
  · have e2:decide (n > 0)=false:=by simpa using h
    simp [call,e2]
theorem slices_Concat_FoldLeaf_eq {F:Nat} (hF:10≤F) (a b:List S_FoldLeaf) (ha:a.length≤10000) (hb:b.length≤10000):slices_Concat_FoldLeaf F [a,b]=some (a++b):=by
  obtain ⟨k,rfl⟩:∃ k,F=k+3:=⟨F - 3,by omega⟩
  have w1:IntKind.i64.wrap 1=1:=rfl
  have w2:IntKind.i64.wrap 2=2:=rfl
  have w3:IntKind.i64.wrap (a.length:Int)=a.length:=wrap_id (by omega)
  have w4:IntKind.i64.wrap ((a.length:Int)+(b.length:Int))=(a.length:Int)+b.length:=wrap_id (by omega)
  have d1:¬ (a.length:Int) < 0:=by omega
  have d2:¬ (a.length:Int)+b.length < 0:=by omega
  have l0:slices_Concat_FoldLeaf_L0 (k+3) [a,b] (k+3) 0 0=some ((a.length+b.length:Nat):Int):=by
    simp [slices_Concat_FoldLeaf_L0,chk,w1,w2,w3,w4,d1,d2]
  have l2:slices_Concat_FoldLeaf_L2 (k+3) [a,b] (k+3) [] 0=some (a++b):=by
    simp [slices_Concat_FoldLeaf_L2,chk,w1,w2]
    omega
  unfold slices_Concat_FoldLeaf
  rw [l0,call_some,slices_Grow_FoldLeaf_eq _ (by omega) (by omega),call_some,l2,call_some]
/-- A pile turned over. -/
def flp (b:Bool) (l:List S_FoldLeaf):List S_FoldLeaf:=l.reverse.map fun x=>bif b then { x with f2 := !x.f2 } else { x with f3 := !x.f3 }
theorem fold_flipped_eq (F:Nat) (l:List S_FoldLeaf) (b:Bool) (h:l.length≤10000):fold_flipped F l b=some (flp b l):=chk_pos (by omega)
/-- The extent,the size,the indices of a fold. -/
def ext (s:S_FoldStep) (cols rows:Nat):Int:=if acr s then (cols:Int) else rows
def siz (s:S_FoldStep) (n:Int):Int:=if s.f1 < n - s.f1 then n - s.f1 else s.f1
def idx (s:S_FoldStep) (n i:Int):Int:=if fst s then i else siz s n - 1 - i
def mvI (s:S_FoldStep) (i:Int):Int:=if fst s then s.f1 - 1 - i else s.f1+i
def fxI (s:S_FoldStep) (i:Int):Int:=if fst s then s.f1+i else s.f1 - 1 - i
/-- A pile in the row or column of a place. -/
def pick (s:S_FoldStep) (cols rows:Nat) (G:Nat→Nat→List S_FoldLeaf) (c r j:Int):List S_FoldLeaf:=if acr s then pileI cols rows G j r else pileI cols rows G c j
def newG (s:S_FoldStep) (cols rows:Nat) (G:Nat→Nat→List S_FoldLeaf) (c r:Nat):List S_FoldLeaf :=
  let i:=idx s (ext s cols rows) (if acr s then (c:Int) else r)
  let a:=flp (acr s) (pick s cols rows G c r (mvI s i))
  let b:=pick s cols rows G c r (fxI s i)
  if s.f2 then a++b else b++a
def nCols (s:S_FoldStep) (cols rows:Nat):Nat:=if acr s then (siz s (ext s cols rows)).toNat else cols
def nRows (s:S_FoldStep) (cols rows:Nat):Nat:=if acr s then rows else (siz s (ext s cols rows)).toNat
theorem pileI_length {cols rows:Nat} {G:Nat→Nat→List S_FoldLeaf} {p:Nat} (hG:∀ c r,c < cols→r < rows→(G c r).length≤p) (c r:Int):(pileI cols rows G c r).length≤p:=by
  unfold pileI
  split
  · exact hG _ _ (by omega) (by omega)
  · simp
theorem pick_length {s:S_FoldStep} {cols rows:Nat} {G:Nat→Nat→List S_FoldLeaf} {p:Nat} (hG:∀ c r,c < cols→r < rows→(G c r).length≤p) (c r j:Int):(pick s cols rows G c r j).length≤p:=by
  unfold pick
  split <;> exact pileI_length hG _ _
theorem newG_length {s:S_FoldStep} {cols rows:Nat} {G:Nat→Nat→List S_FoldLeaf} {p:Nat} (hG:∀ c r,c < cols→r < rows→(G c r).length≤p) (c r:Nat):(newG s cols rows G c r).length≤2 * p:=by
  unfold newG
  have h1:=pick_length (s:=s) hG c r (mvI s (idx s (ext s cols rows) (if acr s then (c:Int) else r)))
  have h2:=pick_length (s:=s) hG c r (fxI s (idx s (ext s cols rows) (if acr s then (c:Int) else r)))
  simp only
  split <;> simp [flp] <;> omega
/-- A fold that can be done. -/
structure Good (s:S_FoldStep) (cols rows:Nat):Prop where
  side:0≤s.f0∧s.f0≤3
  line:1≤s.f1∧s.f1 < ext s cols rows
theorem fold_sheet_fold_L2_eq {F:Nat} (hF:20≤F) {cols rows:Nat} (hc:cols≤8) (hr:rows≤8) {G:Nat→Nat→List S_FoldLeaf} (hG:∀ c r,c < cols→r < rows→(G c r).length≤1000) {s:S_FoldStep} (hs:Good s cols rows) (v1 r:Nat) (hv1:v1≤8) (hr8:r≤8) :
    ∀ (m c n:Nat) (acc:List (List S_FoldLeaf)),c+m=v1→m < n→acc.length+m≤1000 →
      fold_sheet_fold_L2 F (mk cols rows G) s (ext s cols rows) v1 r n acc c=some (acc++(List.range' c m).map fun c=>newG s cols rows G c r):=by
  intro m
  induction m with
  | zero =>
    intro c n acc h hn _
    obtain ⟨n,rfl⟩:∃ k,n=k+1:=⟨n - 1,by omega⟩
    have:decide ((c:Int) < v1)=false:=by simp; omega
    rw [fold_sheet_fold_L2]
    simp only [this,cond_false]
    simp
  | succ m ih =>
    intro c n acc h hn hl
    obtain ⟨n,rfl⟩:∃ k,n=k+1:=⟨n - 1,by omega⟩
    have hd:decide ((c:Int) < v1)=true:=by simp; omega
    have hl1:=hs.line
    have hext:ext s cols rows≤8:=by unfold ext; split <;> omega
    have hwe:IntKind.i64.wrap (ext s cols rows - s.f1)=ext s cols rows - s.f1:=wrap_id (by omega)
    have hsz:(if s.f1 < ext s cols rows - s.f1 then ext s cols rows - s.f1 else s.f1)=siz s (ext s cols rows):=rfl
    have hsb:0≤siz s (ext s cols rows)∧siz s (ext s cols rows)≤8:=by unfold siz; split <;> omega
    rw [fold_sheet_fold_L2]
    simp only [hd,cond_true,fold_across_eq,call_some,hwe,hsz,lett_eq]
    have e1:(bif acr s then some (c:Int) else some (r:Int))=some (if acr s then (c:Int) else r):=by cases acr s <;> rfl
    rw [e1,call_some]
    obtain ⟨i0,hi0⟩:∃ i0:Int,(if acr s then (c:Int) else (r:Int))=i0:=⟨_,rfl⟩
    have hb0:0≤i0∧i0≤8:=by rw [← hi0]; split <;> omega
    rw [hi0]
    have hfst:(bif (s.f0 == (0:Int)) then true else (s.f0 == (2:Int)))=fst s:=rfl
    simp only [hfst]
    have e2:(bif !(fst s) then some (IntKind.i64.wrap (IntKind.i64.wrap (siz s (ext s cols rows) - 1) - i0)) else some i0)=some (idx s (ext s cols rows) i0):=by
      rw [wrap_id (x:=siz s (ext s cols rows) - 1) (by omega),wrap_id (by omega)]
      unfold idx
      cases fst s <;> rfl
    rw [e2,call_some]
    obtain ⟨i,hi⟩:∃ i,idx s (ext s cols rows) i0=i:=⟨_,rfl⟩
    have hb : -20≤i∧i≤20:=by rw [← hi]; unfold idx; split <;> omega
    rw [hi]
    have e3:(bif !(fst s) then some (IntKind.i64.wrap (s.f1+i),IntKind.i64.wrap (IntKind.i64.wrap (s.f1 - 1) - i)) else some (IntKind.i64.wrap (IntKind.i64.wrap (s.f1 - 1) - i),IntKind.i64.wrap (s.f1+i)))=some (mvI s i,fxI s i):=by
      rw [wrap_id (x:=s.f1 - 1) (by omega),wrap_id (x:=s.f1+i) (by omega),wrap_id (by omega)]
      unfold mvI fxI
      cases fst s <;> rfl
    rw [e3,call_some]
    simp only [fold_sheet_pile_eq F hc hr,call_some]
    have e4:(bif acr s then some (pileI cols rows G (mvI s i) r,pileI cols rows G (fxI s i) r) else some (pileI cols rows G c (mvI s i),pileI cols rows G c (fxI s i)))=some (pick s cols rows G c r (mvI s i),pick s cols rows G c r (fxI s i)):=by
      unfold pick
      cases acr s <;> rfl
    rw [e4,call_some]
    have p1:=pick_length (s:=s) hG c r (mvI s i)
    have p2:=pick_length (s:=s) hG c r (fxI s i)
    have p3:(flp (acr s) (pick s cols rows G c r (mvI s i))).length≤1000:=by simpa [flp] using p1
    simp only [fold_flipped_eq F _ _ (by omega:(pick s cols rows G c r (mvI s i)).length≤10000),call_some]
    have e5:newG s cols rows G c r=if s.f2 then flp (acr s) (pick s cols rows G c r (mvI s i))++pick s cols rows G c r (fxI s i) else pick s cols rows G c r (fxI s i)++flp (acr s) (pick s cols rows G c r (mvI s i)):=by
      unfold newG
      rw [hi0,hi]
    have e6:(call (bif !s.f2 then some (pick s cols rows G c r (fxI s i),flp (acr s) (pick s cols rows G c r (mvI s i))) else some (flp (acr s) (pick s cols rows G c r (mvI s i)),pick s cols rows G c r (fxI s i))) fun (v11,v12)=>slices_Concat_FoldLeaf F [v11,v12])=some (newG s cols rows G c r):=by
      rw [e5]
      cases s.f2
      · simp only [Bool.not_false,cond_true,call_some]
        rw [slices_Concat_FoldLeaf_eq (by omega) _ _ (by omega) (by omega)]; rfl
      · simp only [Bool.not_true,cond_false,call_some]
        rw [slices_Concat_FoldLeaf_eq (by omega) _ _ (by omega) (by omega)]; rfl
    have hw:IntKind.i64.wrap ((c:Int)+1)=((c+1:Nat):Int):=by rw [wrap_id (by omega)]; omega
    have fin:∀ g:List S_FoldLeaf,(chk (acc.length+[g].length≤4294967296) <| fold_sheet_fold_L2 F (mk cols rows G) s (ext s cols rows) v1 r n (acc++[g]) (IntKind.i64.wrap ((c:Int)+1)))=some (acc++[g]++(List.range' (c+1) m).map fun c=>newG s cols rows G c r):=by
      intro g
      rw [chk_pos (by simp; omega),hw,ih (c+1) n (acc++[g]) (by omega) (by omega) (by simp; omega)]
    cases hf2:s.f2
    · rw [hf2] at e6
      simp only [Bool.not_false,cond_true,call_some] at e6 ⊢
      rw [e6,call_some,fin]
      simp [List.range'_succ]
    · rw [hf2] at e6
      simp only [Bool.not_true,cond_false,call_some] at e6 ⊢
      rw [e6,call_some,fin]
      simp [List.range'_succ]
theorem fold_sheet_fold_L0_eq {F:Nat} (hF:20≤F) {cols rows:Nat} (hc:cols≤8) (hr:rows≤8) {G:Nat→Nat→List S_FoldLeaf} (hG:∀ c r,c < cols→r < rows→(G c r).length≤1000) {s:S_FoldStep} (hs:Good s cols rows) (v1 v13:Nat) (hv1:v1≤8) (hv13:v13≤8) :
    ∀ (m r n:Nat) (acc:List (List S_FoldLeaf)),r+m=v13→m < n→acc.length+m * 8≤900 →
      fold_sheet_fold_L0 F (mk cols rows G) s (ext s cols rows) v1 v13 n acc r=some (acc++(List.range' r m).flatMap fun r=>(List.range' 0 v1).map fun c=>newG s cols rows G c r):=by
  intro m
  induction m with
  | zero =>
    intro r n acc h hn _
    obtain ⟨n,rfl⟩:∃ k,n=k+1:=⟨n - 1,by omega⟩
    have:decide ((r:Int) < v13)=false:=by simp; omega
    rw [fold_sheet_fold_L0]
    simp only [this,cond_false]
    simp
  | succ m ih =>
    intro r n acc h hn hl
    obtain ⟨n,rfl⟩:∃ k,n=k+1:=⟨n - 1,by omega⟩
    have hd:decide ((r:Int) < v13)=true:=by simp; omega
    have hw:IntKind.i64.wrap ((r:Int)+1)=((r+1:Nat):Int):=by rw [wrap_id (by omega)]; omega
    have h2:=fold_sheet_fold_L2_eq hF hc hr hG hs v1 r hv1 (by omega) v1 0 F acc (by omega) (by omega) (by omega)
    rw [fold_sheet_fold_L0]
    simp only [hd,cond_true]
    rw [show (0:Int)=((0:Nat):Int) from rfl,h2,call_some,hw,ih (r+1) n _ (by omega) (by omega) (by simp; omega)]
    simp [List.range'_succ]
theorem siz_pos {s:S_FoldStep} {cols rows:Nat} (hs:Good s cols rows):0 < siz s (ext s cols rows)∧siz s (ext s cols rows)≤ext s cols rows:=by
  have:=hs.line
  unfold siz
  split <;> omega
theorem fold_sheet_fold_eq {F:Nat} (hF:20≤F) {cols rows:Nat} (hc:cols≤8) (hr:rows≤8) {G:Nat→Nat→List S_FoldLeaf} (hG:∀ c r,c < cols→r < rows→(G c r).length≤1000) {s:S_FoldStep} (hs:Good s cols rows) :
    fold_sheet_fold F (mk cols rows G) s=some (mk (nCols s cols rows) (nRows s cols rows) (newG s cols rows G)):=by
  have hext:ext s cols rows≤8:=by unfold ext; split <;> omega
  have hl1:=hs.line
  have hsp:=siz_pos hs
  have hwe:IntKind.i64.wrap (ext s cols rows - s.f1)=ext s cols rows - s.f1:=wrap_id (by omega)
  have hsz:(if s.f1 < ext s cols rows - s.f1 then ext s cols rows - s.f1 else s.f1)=siz s (ext s cols rows):=rfl
  have hx:(if acr s=true then (cols:Int) else (rows:Int))=ext s cols rows:=rfl
  unfold fold_sheet_fold
  rw [fold_sheet_extent_eq,call_some,hx]
  have h43:fold_across F s=some (acr s):=rfl
  simp only [h43,call_some,hwe,hsz]
  have e1:(bif acr s then some (siz s (ext s cols rows),(mk cols rows G).f1) else some ((mk cols rows G).f0,siz s (ext s cols rows)))=some (((nCols s cols rows:Nat):Int),((nRows s cols rows:Nat):Int)):=by
    unfold nCols nRows
    cases acr s
    · simp only [cond_false,Bool.false_eq_true,if_false]
      rw [Int.toNat_of_nonneg (by omega)]
      rfl
    · simp only [cond_true,if_true]
      rw [Int.toNat_of_nonneg (by omega)]
      rfl
  have hn1:nCols s cols rows≤8:=by unfold nCols; split <;> omega
  have hn2:nRows s cols rows≤8:=by unfold nRows; split <;> omega
  rw [e1,call_some]
  simp only
  have h0:=fold_sheet_fold_L0_eq hF hc hr hG hs (nCols s cols rows) (nRows s cols rows) hn1 hn2 (nRows s cols rows) 0 F [] (by omega) (by omega) (by simp; omega)
  rw [show (0:Int)=((0:Nat):Int) from rfl,h0,call_some]
  rfl
theorem fold_flat_L2_eq {F:Nat} (a0:S_FoldScheme) {C:Nat} (hC:a0.f0=C) (hC8:C≤8) (r:Nat) :
    ∀ (m c n:Nat) (acc:List (List S_FoldLeaf)),c+m=C→m < n→acc.length+m≤1000 →
      fold_flat_L2 F a0 r n acc c=some (acc++(List.range' c m).map fun (c:Nat)=>[S_FoldLeaf.mk c r false false]):=by
  intro m
  induction m with
  | zero =>
    intro c n acc h hn _
    obtain ⟨n,rfl⟩:∃ k,n=k+1:=⟨n - 1,by omega⟩
    have:decide ((c:Int) < a0.f0)=false:=by simp; omega
    rw [fold_flat_L2]
    simp only [this,cond_false]
    simp
  | succ m ih =>
    intro c n acc h hn hl
    obtain ⟨n,rfl⟩:∃ k,n=k+1:=⟨n - 1,by omega⟩
    have hd:decide ((c:Int) < a0.f0)=true:=by simp; omega
    have hw:IntKind.i64.wrap ((c:Int)+1)=((c+1:Nat):Int):=by rw [wrap_id (by omega)]; omega
    rw [fold_flat_L2]
    simp only [hd,cond_true]
    rw [chk_pos (by simp; omega),hw,ih (c+1) n _ (by omega) (by omega) (by simp; omega)]
    simp [List.range'_succ]
theorem fold_flat_L0_eq {F:Nat} (hF:20≤F) (a0:S_FoldScheme) {C R:Nat} (hC:a0.f0=C) (hC8:C≤8) (hR:a0.f1=R) (hR8:R≤8) :
    ∀ (m r n:Nat) (acc:List (List S_FoldLeaf)),r+m=R→m < n→acc.length+m * 8≤900 →
      fold_flat_L0 F a0 n acc r=some (acc++(List.range' r m).flatMap fun (r:Nat)=>(List.range' 0 C).map fun (c:Nat)=>[S_FoldLeaf.mk c r false false]):=by
  intro m
  induction m with
  | zero =>
    intro r n acc h hn _
    obtain ⟨n,rfl⟩:∃ k,n=k+1:=⟨n - 1,by omega⟩
    have:decide ((r:Int) < a0.f1)=false:=by simp; omega
    rw [fold_flat_L0]
    simp only [this,cond_false]
    simp
  | succ m ih =>
    intro r n acc h hn hl
    obtain ⟨n,rfl⟩:∃ k,n=k+1:=⟨n - 1,by omega⟩
    have hd:decide ((r:Int) < a0.f1)=true:=by simp; omega
    have hw:IntKind.i64.wrap ((r:Int)+1)=((r+1:Nat):Int):=by rw [wrap_id (by omega)]; omega
    have h2:=fold_flat_L2_eq (F:=F) a0 hC hC8 r C 0 F acc (by omega) (by omega) (by omega)
    rw [fold_flat_L0]
    simp only [hd,cond_true]
    rw [show (0:Int)=((0:Nat):Int) from rfl,h2,call_some,hw,ih (r+1) n _ (by omega) (by omega) (by simp; omega)]
    simp [List.range'_succ]
/-- The flat sheet. -/
def G0 (c r:Nat):List S_FoldLeaf:=[S_FoldLeaf.mk c r false false]
theorem fold_flat_eq {F:Nat} (hF:20≤F) (a0:S_FoldScheme) {C R:Nat} (hC:a0.f0=C) (hC8:C≤8) (hR:a0.f1=R) (hR8:R≤8):fold_flat F a0=some (mk C R G0):=by
  have h0:=fold_flat_L0_eq hF a0 hC hC8 hR hR8 R 0 F [] (by omega) (by omega) (by simp; omega)
  unfold fold_flat
  rw [show (0:Int)=((0:Nat):Int) from rfl,h0,call_some,hC,hR]
  rfl
end Go.Vm.BinG
