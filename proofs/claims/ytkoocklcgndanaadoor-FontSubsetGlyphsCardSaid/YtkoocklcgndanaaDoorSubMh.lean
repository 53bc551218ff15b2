/-
  FONT SUBSET,PLAIN,part 8: the subset is a font without error,but for its size.
-/
import Derived.Test.YtkoocklcgndanaaDoorSubMg
import Derived.Test.YtkoocklcgndanaaDoorSubLi
namespace Go.Vm.SubG
theorem parts_go {n:Int}:∀ (l:List S_FontPart) (i:Nat),(match runT (partF n) (fun _=>(Out.go ():Out Unit Int)) i l () with
  | .esc e=>e
  | .go _=>0)=0→∀ p∈l,(0≤p.f0∧p.f0 < n)∧(farB p.f1 || farB p.f2)=false
 | [],_,_,p,hp=>by cases hp
 | x :: l,i,h,p,hp=>by
  have hx:(0≤x.f0∧x.f0 < n)∧(farB x.f1 || farB x.f2)=false:=by
   by_cases t1:(decide (x.f0 < 0) || decide (x.f0 ≥ n))=true
   ·have e:partF n i x ()=.inr (.esc 8):=by unfold partF; rw [if_pos t1]
    rw [runT,e] at h
    have h':(8:Int)=0:=h
    exact absurd h' (by decide)
   ·by_cases t2:(farB x.f1 || farB x.f2)=true
    ·have e:partF n i x ()=.inr (.esc 3):=by unfold partF; rw [if_neg t1,if_pos t2]
     rw [runT,e] at h
     have h':(3:Int)=0:=h
     exact absurd h' (by decide)
    ·simp only [Bool.or_eq_true,decide_eq_true_eq] at t1
     exact ⟨by omega,by simpa using t2⟩
  rw [runT] at h
  have hin:partF n i x ()=.inl ():=by
   unfold partF
   rw [if_neg (by simp; omega),if_neg (by rw [hx.2]; decide)]
  rw [hin] at h
  rcases List.mem_cons.1 hp with rfl | hp
  ·exact hx
  ·exact parts_go l (i+1) h p hp
theorem glyE_eq (many a:Int) (cs:List (List S_FontPoint)) (ps:List S_FontPart):glyE many ⟨a,cs,ps⟩=if decide (a < 0) || decide (a > 2047) then 3 else if decide (cs.length > 0) && decide (ps.length > 0) then 4 else if decide (cs.length > 8) || decide (ps.length > 4) then 2 else match consOut cs with
  | .esc e=>e
  | .go _=>match partsOut many ps with
   | .esc e=>e
   | .go _=>0:=rfl
theorem newG_ok {n m:Nat} {num:List Int} {g:S_FontGlyph} (h:glyE n g=0) (hn:∀ p∈g.f2,0≤num.getD p.f0.toNat 0∧num.getD p.f0.toNat 0 < (m:Int)):glyE m (newG num g)=0:=by
 obtain ⟨a,cs,ps⟩:=g
 rw [glyE_eq] at h
 show glyE m ⟨a,cs,ps.map fun p=>(⟨num.getD p.f0.toNat 0,p.f1,p.f2⟩:S_FontPart)⟩=0
 rw [glyE_eq,List.length_map]
 simp only at hn
 split at h
 ·cases h
 rename_i t1
 split at h
 ·cases h
 rename_i t2
 split at h
 ·cases h
 rename_i t3
 rw [if_neg t1,if_neg t2,if_neg t3]
 cases hc:consOut cs with
 | esc e=>rw [hc] at h; exact h
 | go u =>
  rw [hc] at h
  simp only at h ⊢
  have hp:=parts_go ps 0 h
  have:partsOut (m:Int) (ps.map fun p=>(⟨num.getD p.f0.toNat 0,p.f1,p.f2⟩:S_FontPart))=.go ():=by
   refine runT_all _ _ 0 fun j x hx=>?_
   rw [List.getElem?_map,Option.map_eq_some_iff] at hx
   obtain ⟨p,hpj,rfl⟩:=hx
   have hpm:=List.mem_of_getElem? hpj
   have h1:=hn p hpm
   have h2:=(hp p hpm).2
   unfold partF
   simp only
   rw [if_neg (by simp only [Bool.or_eq_true,decide_eq_true_eq]; omega),if_neg (by rw [h2]; decide)]
  rw [this]
theorem krn_each {n:Int} {l:List S_FontPair} (h:krnOut n l=.go ()):∀ x∈l,(0≤x.f0∧x.f0 < n∧0≤x.f1∧x.f1 < n)∧((x.f2 == 0) || farB x.f2)=false:=by
 have key:=runT_go (krnF n l) (fun i x r hr=>by
  unfold krnF at hr
  split at hr
  ·cases hr; exact fun h=>by cases h
  ·split at hr
   ·cases hr; exact fun h=>by cases h
   ·split at hr
    ·cases hr; exact fun h=>by cases h
    ·cases hr) l 0 h
 intro x hx
 obtain ⟨i,hi⟩:=List.getElem?_of_mem hx
 have:=key i x hi
 unfold krnF at this
 split at this
 ·cases this
 ·rename_i t1
  split at this
  ·cases this
  ·rename_i t2
   simp only [Bool.or_eq_true,decide_eq_true_eq] at t1
   exact ⟨by omega,by simpa using t2⟩
theorem krn_go {n:Int} {l:List S_FontPair} (h1:∀ x∈l,(0≤x.f0∧x.f0 < n∧0≤x.f1∧x.f1 < n)∧((x.f2 == 0) || farB x.f2)=false) (h2:l.Pairwise fun x y=>x.f0 < y.f0∨(x.f0=y.f0∧x.f1 < y.f1)):krnOut n l=.go ():=by
 refine runT_all _ l 0 fun j x hx=>?_
 rw [Nat.zero_add]
 obtain ⟨he,hf⟩:=h1 x (List.mem_of_getElem? hx)
 unfold krnF
 rw [if_neg (by simp only [Bool.or_eq_true,decide_eq_true_eq]; omega),if_neg (by rw [hf]; decide)]
 by_cases h0:0 < j
 ·have hjl:=lt_of_get hx
  have hj:j - 1 < l.length:=by omega
  have h3:=List.pairwise_iff_getElem.1 h2 (j - 1) j hj hjl (by omega)
  rw [List.getElem?_eq_getElem hjl] at hx
  cases hx
  have h4:cmpP l[j - 1] l[j] < 0:=by
   have:=decide_eq_true h3
   rw [← cmpP_lt] at this
   exact of_decide_eq_true this
  rw [if_neg]
  rw [Bool.and_eq_true,decide_eq_true_eq,decide_eq_true_eq,getD_of (List.getElem?_eq_getElem hj)]
  omega
 ·rw [if_neg]
  rw [Bool.and_eq_true,decide_eq_true_eq,decide_eq_true_eq]
  omega
theorem kps_idx (c:List Bool):∀ (n x g:Nat),(kps c n)[x]? = some g→rk c g=x∧kpt c g=true∧g < n
 | 0,x,g,h=>by simp [kps] at h
 | n+1,x,g,h=>by
  rw [kps_succ] at h
  by_cases hx:x < (kps c n).length
  ·rw [List.getElem?_append_left hx] at h
   obtain ⟨h1,h2,h3⟩:=kps_idx c n x g h
   exact ⟨h1,h2,by omega⟩
  ·rw [List.getElem?_append_right (by omega)] at h
   split at h
   ·rename_i hk
    have hz:x - (kps c n).length=0:=by have:=lt_of_get h; simp at this; omega
    rw [hz] at h
    cases h
    exact ⟨by show (kps c n).length=x; omega,hk,by omega⟩
   ·simp at h
theorem depS_map {d d':Nat→Option (Nat×Nat)} {r:Nat→Nat}:∀ (l:List Nat) (m s:Nat),(∀ p∈l,d (r p)=d' p)→depS d (l.map r) m s=depS d' l m s
 | [],_,_,_=>rfl
 | p :: l,m,s,h=>by
  rw [List.map_cons,depS,depS,h p List.mem_cons_self]
  cases d' p with
  | none=>rfl
  | some x=>exact depS_map l _ _ fun q hq=>h q (List.mem_cons_of_mem _ hq)
theorem rng_esc (n:Int) (L:List S_FontRange):∀ (l:List S_FontRange) (i:Nat),runT (rngF n L) (fun _=>(Out.go ():Out Unit Int)) i l ()≠.esc 0:=by
 intro l
 induction l with
 | nil=>intro i h; cases h
 | cons x l ih =>
  intro i h
  rw [runT] at h
  unfold rngF at h
  split at h
  ·exact ih _ h
  ·rename_i r h1
   split at h1
   ·cases h1; cases h
   ·split at h1
    ·cases h1; cases h
    ·split at h1
     ·cases h1; cases h
     ·cases h1
theorem krn_esc (n:Int) (L:List S_FontPair):∀ (l:List S_FontPair) (i:Nat),runT (krnF n L) (fun _=>(Out.go ():Out Unit Int)) i l ()≠.esc 0:=by
 intro l
 induction l with
 | nil=>intro i h; cases h
 | cons x l ih =>
  intro i h
  rw [runT] at h
  unfold krnF at h
  split at h
  ·exact ih _ h
  ·rename_i r h1
   split at h1
   ·cases h1; cases h
   ·split at h1
    ·cases h1; cases h
    ·split at h1
     ·cases h1; cases h
     ·cases h1
/-- What the subset is made of. -/
structure SubOk (a0:S_Font) (c:List Bool) (num:List Int) (rs:List S_FontRange):Prop where
 len:c.length=a0.f1.length
 zero:kpt c 0=true
 closed:∀ x,kpt c x=true→∀ y∈fpar a0 x,kpt c y=true
 numl:num.length=a0.f1.length
 num:∀ g < a0.f1.length,kpt c g=true→num.getD g 0=(rk c g:Int)
 rng:RngOk (rk c a0.f1.length:Int) rs
def subF (a0:S_Font) (c:List Bool) (num:List Int) (rs:List S_FontRange):S_Font :=
 ⟨a0.f0,(kps c a0.f1.length).map fun g=>newG num (gly a0 g),rs,(a0.f3.filter fun k=>kpt c k.f0.toNat && kpt c k.f1.toNat).map (newK num)⟩
theorem kpt_lt {c:List Bool} {x:Nat} (h:kpt c x=true):x < c.length:=by
 apply Classical.byContradiction
 intro hn
 unfold kpt at h
 rw [List.getD_eq_getElem?_getD,List.getElem?_eq_none (by omega)] at h
 cases h
section
variable {a0:S_Font} {c:List Bool} {num:List Int} {rs:List S_FontRange}
theorem sub_len:(subF a0 c num rs).f1.length=rk c a0.f1.length:=by
 show ((kps c a0.f1.length).map _).length=_
 rw [List.length_map]
 rfl
theorem SubOk.lt (h:SubOk a0 c num rs) {x:Nat} (hk:kpt c x=true):x < a0.f1.length:=by
 rw [← h.len]; exact kpt_lt hk
theorem sub_gly (h:SubOk a0 c num rs) {g:Nat} (hk:kpt c g=true):gly (subF a0 c num rs) (rk c g)=newG num (gly a0 g):=by
 have h1:=kps_get c a0.f1.length g (h.lt hk) hk
 refine gly_get ?_
 show ((kps c a0.f1.length).map fun g=>newG num (gly a0 g))[rk c g]? = _
 rw [List.getElem?_map,h1]
 rfl
theorem sub_own (h:SubOk a0 c num rs) {g:Nat} (hk:kpt c g=true):fown (subF a0 c num rs) (rk c g)=fown a0 g:=by
 unfold fown
 rw [sub_gly h hk]
 rfl
theorem sub_par (h:SubOk a0 c num rs) (ok:FontOk a0) {g:Nat} (hk:kpt c g=true):fpar (subF a0 c num rs) (rk c g)=(fpar a0 g).map (rk c):=by
 unfold fpar
 rw [sub_gly h hk]
 simp only [newG,List.map_map]
 refine List.map_congr_left fun p hp=>?_
 have hc:=h.closed g hk p.f0.toNat (List.mem_map.2 ⟨p,hp,rfl⟩)
 simp only [Function.comp]
 rw [h.num _ (h.lt hc) hc,Int.toNat_natCast]
theorem sub_dep (h:SubOk a0 c num rs) (ok:FontOk a0):∀ (k g:Nat),kpt c g=true→dep (fown (subF a0 c num rs)) (fpar (subF a0 c num rs)) k (rk c g)=dep (fown a0) (fpar a0) k g
 | 0,_,_=>rfl
 | k+1,g,hk=>by
  rw [dep,dep,sub_own h hk,sub_par h ok hk]
  exact depS_map _ _ _ fun p hp=>sub_dep h ok k p (h.closed g hk p hp)
theorem gsz_new (g:S_FontGlyph):gsz (newG num g)=gsz g:=by
 unfold gsz newG
 simp
theorem filter_sum_le {α:Type} (f:α→Nat) (p:α→Bool):∀ l:List α,((l.filter p).map f).sum≤(l.map f).sum
 | []=>Nat.le_refl _
 | x :: l=>by
  have:=filter_sum_le f p l
  rw [List.filter_cons]
  split
  ·simp; omega
  ·simp; omega
theorem sub_size (h:SubOk a0 c num rs):wsz (subF a0 c num rs)+7 * a0.f2.length≤wsz a0+7 * rs.length:=by
 unfold wsz
 have h1:((subF a0 c num rs).f1.map gsz).sum≤(a0.f1.map gsz).sum:=by
  have e:(subF a0 c num rs).f1.map gsz=(kps c a0.f1.length).map fun g=>gsz (gly a0 g):=by
   show ((kps c a0.f1.length).map fun g=>newG num (gly a0 g)).map gsz=_
   rw [List.map_map]
   exact List.map_congr_left fun g _=>gsz_new _
  have e2:a0.f1.map gsz=(List.range a0.f1.length).map fun g=>gsz (gly a0 g):=by
   apply List.ext_getElem?
   intro i
   rw [List.getElem?_map,List.getElem?_map]
   by_cases hi:i < a0.f1.length
   ·rw [List.getElem?_range hi,List.getElem?_eq_getElem hi]
    simp only [Option.map_some]
    rw [gly_get (List.getElem?_eq_getElem hi)]
   ·rw [List.getElem?_eq_none (by omega),List.getElem?_eq_none (by simp; omega)]
    rfl
  rw [e,e2]
  exact filter_sum_le _ _ _
 have h2:(subF a0 c num rs).f3.length≤a0.f3.length:=by
  show ((a0.f3.filter _).map _).length≤_
  rw [List.length_map]
  exact List.length_filter_le _ _
 show 27+7 * rs.length+_+_+_≤_
 omega
theorem sub_check (F:Nat) (hF:300000≤F) (g:FontFull a0) (h:SubOk a0 c num rs):font_Check F (subF a0 c num rs)=some (if 64 < rs.length∨4096 < wsz (subF a0 c num rs) then 2 else 0):=by
 have ok:=g.good.ok
 have h128:=ok.len
 have hm:rk c a0.f1.length≤a0.f1.length:=kps_len c _
 have hgl:∀ x∈(subF a0 c num rs).f1,glyE (subF a0 c num rs).f1.length x=0:=by
  intro x hx
  obtain ⟨y,hy,rfl⟩:=List.mem_map.1 hx
  obtain ⟨hy1,hy2⟩:=kps_mem.1 hy
  have hg0:glyE a0.f1.length (gly a0 y)=0:=g.gly _ (by
   unfold gly
   rw [List.getD_eq_getElem?_getD,List.getElem?_eq_getElem hy1]
   exact List.getElem_mem hy1)
  rw [sub_len]
  refine newG_ok hg0 fun p hp=>?_
  have hc:=h.closed y hy2 p.f0.toNat (List.mem_map.2 ⟨p,hp,rfl⟩)
  rw [h.num _ (h.lt hc) hc]
  have:=rk_lt c (h.lt hc) hc
  omega
 have hpar:∀ x < (subF a0 c num rs).f1.length,∀ p∈fpar (subF a0 c num rs) x,p < (subF a0 c num rs).f1.length:=by
  intro x hx p hp
  rw [sub_len] at hx ⊢
  have hxl:x < (kps c a0.f1.length).length:=hx
  obtain ⟨r1,r2,r3⟩:=kps_idx c a0.f1.length x _ (List.getElem?_eq_getElem hxl)
  rw [← r1,sub_par h ok r2] at hp
  obtain ⟨y,hy,rfl⟩:=List.mem_map.1 hp
  have hc:=h.closed _ r2 y hy
  exact rk_lt c (h.lt hc) hc
 have htab:tabE (subF a0 c num rs)=0:=by
  unfold tabE
  rw [sub_len,rng_go (show RngOk (rk c a0.f1.length:Int) (subF a0 c num rs).f2 from h.rng)]
  have ht:=g.good.tab
  have hko:krnOut (a0.f1.length:Int) a0.f3=.go ():=by
   unfold tabE at ht
   cases hr:rngOut (a0.f1.length:Int) a0.f2 with
   | esc e =>
    rw [hr] at ht
    simp only at ht
    subst ht
    exact absurd hr (rng_esc _ _ _ 0)
   | go u =>
    rw [hr] at ht
    simp only at ht
    cases hk:krnOut (a0.f1.length:Int) a0.f3 with
    | go u=>rfl
    | esc e =>
     rw [hk] at ht
     simp only at ht
     subst ht
     exact absurd hk (krn_esc _ _ _ 0)
  have hke:=krn_each hko
  have hks:=(krn_ok hko).sorted
  rw [show krnOut (rk c a0.f1.length:Int) (subF a0 c num rs).f3=.go () from ?_]
  have hin:∀ k∈(a0.f3.filter fun k=>kpt c k.f0.toNat && kpt c k.f1.toNat),k∈a0.f3∧kpt c k.f0.toNat=true∧kpt c k.f1.toNat=true:=by
   intro k hk
   have:=List.mem_filter.1 hk
   rw [Bool.and_eq_true] at this
   exact this
  have hn:∀ g,kpt c g=true→num.getD g 0=(rk c g:Int):=fun g hg=>h.num g (h.lt hg) hg
  refine krn_go (fun x hx=>?_) ?_
  ·obtain ⟨k,hk,rfl⟩:=List.mem_map.1 hx
   obtain ⟨k1,k2,k3⟩:=hin k hk
   obtain ⟨_,e2⟩:=hke k k1
   refine ⟨?_,e2⟩
   simp only [newK]
   rw [hn _ k2,hn _ k3]
   have:=rk_lt c (h.lt k2) k2
   have:=rk_lt c (h.lt k3) k3
   omega
  ·show List.Pairwise _ ((a0.f3.filter fun k=>kpt c k.f0.toNat && kpt c k.f1.toNat).map (newK num))
   rw [List.pairwise_map]
   have hp:a0.f3.Pairwise fun x y=>x.f0 < y.f0∨(x.f0=y.f0∧x.f1 < y.f1) :=
    List.pairwise_iff_getElem.2 fun i j hi hj hij=>hks i j _ _ hij (List.getElem?_eq_getElem hi) (List.getElem?_eq_getElem hj)
   refine (hp.filter _).imp_of_mem fun {x y} hx hy hxy=>?_
   obtain ⟨x1,x2,x3⟩:=hin x hx
   obtain ⟨y1,y2,y3⟩:=hin y hy
   have ex:=(hke x x1).1
   have ey:=(hke y y1).1
   simp only [newK]
   rw [hn _ x2,hn _ x3,hn _ y2,hn _ y3]
   rcases hxy with hlt | ⟨heq,hlt⟩
   ·left
    have:=rk_lt c (show x.f0.toNat < y.f0.toNat by omega) x2
    omega
   ·right
    refine ⟨by rw [heq],?_⟩
    have:=rk_lt c (show x.f1.toNat < y.f1.toNat by omega) x3
    omega
 refine check_val F hF _ g.unit ?_ ?_ ?_ hgl htab ?_
 ·rw [sub_len]
  have:=rk_lt c (h.lt h.zero) h.zero
  omega
 ·rw [sub_len]; omega
 ·show ((a0.f3.filter _).map _).length≤128
  rw [List.length_map]
  have:=List.length_filter_le (fun k:S_FontPair=>kpt c k.f0.toNat && kpt c k.f1.toNat) a0.f3
  have:=g.good.kern
  omega
 ·intro x hx
  rw [sub_len] at hx
  have hxl:x < (kps c a0.f1.length).length:=hx
  obtain ⟨r1,r2,r3⟩:=kps_idx c a0.f1.length x _ (List.getElem?_eq_getElem hxl)
  obtain ⟨d,s,hd,h4,h5⟩:=g.good.dep _ r3
  have hd':dep (fown a0) (fpar a0) a0.f1.length (kps c a0.f1.length)[x]=some (d,s):=hd
  rw [← sub_dep h ok _ _ r2,r1] at hd'
  exact ⟨d,s,dep_top hpar _ x (by rw [sub_len]; exact hx) _ hd',h4,h5⟩
end
end Go.Vm.SubG
