/-
  FONT SUBSET,PLAIN,part 5: the glyphs and the pairs of the subset.
-/
import Derived.Test.YtkoocklcgndanaaDoorSubMd
namespace Go.Vm.SubG
section
variable {a0:S_Font} {F:Nat}
/-- A glyph with new numbers; a pair with new numbers. -/
def newG (num:List Int) (g:S_FontGlyph):S_FontGlyph:=⟨g.f0,g.f1,g.f2.map fun p=>⟨num.getD p.f0.toNat 0,p.f1,p.f2⟩⟩
def newK (num:List Int) (k:S_FontPair):S_FontPair:=⟨num.getD k.f0.toNat 0,num.getD k.f1.toNat 0,k.f2⟩
theorem clonePt_eq (l:List S_FontPoint) (h:l.length≤32):slices_Clone_FontPoint F l=some l:=by
 unfold slices_Clone_FontPoint
 rw [chk_pos (by simp; omega)]
 rfl
theorem old_get {old:List Int} {i g:Nat} (h:old[i]? = some (g:Int)):(old.getD i 0).toNat=g:=by rw [getD_of h]; rfl
theorem contours_L6 (hF:1000≤F) (old:List Int) (i g:Nat) (ho:old[i]? = some (g:Int)) (ok:FontOk a0) (hg:g < a0.f1.length):font_Subset_L6 F a0.f1 old i F [] 0=some (gly a0 g).f1:=by
 have hgo:=ok.ok g hg
 have h8:=hgo.cons
 obtain ⟨s,e,h1⟩:=range_ex (σ:=List (List S_FontPoint)) (gly a0 g).f1 (fun n s j=>font_Subset_L6 F a0.f1 old i n s j) (fun j s=>s=(gly a0 g).f1.take j)
  (fun n s j x hx hi=>by
   subst hi
   have hj:=lt_of_get hx
   simp only [font_Subset_L6,Int.toNat_natCast,old_get ho,gly_eq,lett_eq]
   rw [dec_lt hj,cond_true,chk_in hj,getD_of hx,clonePt_eq x (hgo.con x (List.mem_of_getElem? hx)),call_some,chk_pos (by simp; omega),wrap_succ (by omega)]
   exact ⟨_,rfl,by rw [List.take_add_one,hx]; rfl⟩)
  (fun n s hi=>by
   simp only [font_Subset_L6,Int.toNat_natCast,old_get ho,gly_eq,lett_eq]
   rw [dec_end,cond_false]) F (by omega) [] rfl
 rw [h1,List.take_length] at e
 exact e
theorem parts_L8 (hF:1000≤F) (old num:List Int) (i g:Nat) (ho:old[i]? = some (g:Int)) (ok:FontOk a0) (hg:g < a0.f1.length) (hn:num.length=a0.f1.length) :
  font_Subset_L8 F a0.f1 old num i F [] 0=some (newG num (gly a0 g)).f2:=by
 have hgo:=ok.ok g hg
 have h4:=hgo.parts
 obtain ⟨s,e,h1⟩:=range_ex (σ:=List S_FontPart) (gly a0 g).f2 (fun n s j=>font_Subset_L8 F a0.f1 old num i n s j) (fun j s=>s=((gly a0 g).f2.take j).map fun p=>⟨num.getD p.f0.toNat 0,p.f1,p.f2⟩)
  (fun n s j x hx hi=>by
   subst hi
   have hj:=lt_of_get hx
   have hb:=hgo.pt x (List.mem_of_getElem? hx)
   simp only [font_Subset_L8,Int.toNat_natCast,old_get ho,gly_eq,lett_eq]
   rw [dec_lt hj,cond_true,chk_in hj,getD_of hx,chk_pos ⟨hb.1,by omega⟩,chk_pos (by simp; omega),wrap_succ (by omega)]
   exact ⟨_,rfl,by rw [List.take_add_one,hx,List.map_append]; rfl⟩)
  (fun n s hi=>by
   simp only [font_Subset_L8,Int.toNat_natCast,old_get ho,gly_eq,lett_eq]
   rw [dec_end,cond_false]) F (by omega) [] rfl
 rw [h1,List.take_length] at e
 exact e
theorem glyphs_L4 (hF:1000≤F) (ks:List Nat) (num:List Int) (ok:FontOk a0) (hk:∀ g∈ks,g < a0.f1.length) (hl:ks.length≤128) (hn:num.length=a0.f1.length) :
  font_Subset_L4 F a0.f1 (ks.map Int.ofNat) num F [] 0=some (ks.map fun g=>newG num (gly a0 g)):=by
 obtain ⟨s,e,h1⟩:=range_ex (σ:=List S_FontGlyph) ks (fun n s j=>font_Subset_L4 F a0.f1 (ks.map Int.ofNat) num n s j) (fun j s=>s=(ks.take j).map fun g=>newG num (gly a0 g))
  (fun n s j g hx hi=>by
   subst hi
   have hj:=lt_of_get hx
   have hg:=hk g (List.mem_of_getElem? hx)
   have ho:(ks.map Int.ofNat)[j]? = some (g:Int):=by rw [List.getElem?_map,hx]; rfl
   have hjm:j < (ks.map Int.ofNat).length:=by simpa using hj
   simp only [font_Subset_L4,Int.toNat_natCast,getD_of ho,dec_lt hjm,cond_true,chk_in hjm,chk_in hg]
   rw [contours_L6 hF _ j g ho ok hg,call_some,parts_L8 hF _ num j g ho ok hg hn,call_some,chk_pos (by simp; omega),lett_eq,gly_eq,wrap_succ (by omega)]
   exact ⟨_,rfl,by rw [List.take_add_one,hx,List.map_append]; rfl⟩)
  (fun n s hi=>by
   simp only [font_Subset_L4]
   rw [show ((ks.length:Nat):Int)=(((ks.map Int.ofNat).length:Nat):Int) by rw [List.length_map],dec_end,cond_false]) F (by omega) [] rfl
 rw [h1,List.take_length] at e
 exact e
theorem pairs_L12 (hF:1000≤F) (c:List Bool) (num:List Int) (n:Nat) (hc:c.length=n) (hn:num.length=n) (ks:List S_FontPair) (hl:ks.length≤128) (hb:∀ k∈ks,0≤k.f0∧k.f0 < (n:Int)∧0≤k.f1∧k.f1 < (n:Int)) :
  font_Subset_L12 F ks c num F [] 0=some ((ks.filter fun k=>kpt c k.f0.toNat && kpt c k.f1.toNat).map (newK num)):=by
 obtain ⟨s,e,h1⟩:=range_ex (σ:=List S_FontPair) ks (fun n s j=>font_Subset_L12 F ks c num n s j) (fun j s=>s=((ks.take j).filter fun k=>kpt c k.f0.toNat && kpt c k.f1.toNat).map (newK num))
  (fun m s j k hx hi=>by
   have hj:=lt_of_get hx
   obtain ⟨b1,b2,b3,b4⟩:=hb k (List.mem_of_getElem? hx)
   have hs:s.length≤128:=by
    rw [hi,List.length_map]
    have:=List.length_filter_le (fun k:S_FontPair=>kpt c k.f0.toNat && kpt c k.f1.toNat) (ks.take j)
    rw [List.length_take] at this
    omega
   have e0:∀ x,c.getD x false=kpt c x:=fun _=>rfl
   simp only [font_Subset_L12,Int.toNat_natCast,getD_of hx,dec_lt hj,cond_true,chk_in hj]
   rw [chk_pos ⟨b1,by omega⟩,chk_pos (fun _=>⟨b3,by omega⟩)]
   simp only [lett_eq,e0,and_cond]
   cases hk:kpt c k.f0.toNat && kpt c k.f1.toNat
   ·rw [cond_false,call_some,wrap_succ (by omega)]
    refine ⟨_,rfl,?_⟩
    rw [hi,List.take_add_one,hx,List.filter_append]
    simp [hk]
   ·rw [cond_true,chk_pos ⟨b1,by omega⟩,chk_pos ⟨b3,by omega⟩,chk_pos (by simp; omega),call_some,wrap_succ (by omega)]
    refine ⟨_,rfl,?_⟩
    rw [hi,List.take_add_one,hx,List.filter_append,List.map_append]
    congr 1
    simp only [Option.toList,List.filter_cons,List.filter_nil]
    rw [if_pos hk]
    rfl)
  (fun m s hi=>by
   simp only [font_Subset_L12]
   rw [dec_end,cond_false]) F (by omega) [] rfl
 rw [h1,List.take_length] at e
 exact e
end
end Go.Vm.SubG
