/-
  FONT,PLAIN,part 5: what is written has the length that the reference counts.
-/
import Derived.Test.YtkoocklcgndanaaDoorSubLe
namespace Go.Vm.SubG
theorem u8_byte (z:Int):0≤IntKind.u8.wrap z∧IntKind.u8.wrap z < 256:=by rw [IntKind.wrap_u8]; omega
theorem writeByte_ex (F:Nat) (z:Int) (c:List UInt8) (hc:c.length≤1000000):∃ l,strings_Builder_WriteByte F (IntKind.u8.wrap z) c=some ((),l)∧l.length=c.length+1:=by
 unfold strings_Builder_WriteByte
 rw [chk_pos (u8_byte z),chk_pos (by simp; omega)]
 exact ⟨_,rfl,by simp⟩
theorem put_L2 (F:Nat) (a1:List Int) (v1:Int):∀ (k n:Nat) (c:List UInt8),k < n→k≤8→c.length+k≤900008→∃ l,font_packer_put_L2 F a1 v1 n ((k:Int) - 1) c=some l∧l.length=c.length+k
 | 0,n,c,hn,_,_=>by
  obtain ⟨n,rfl⟩:∃ k,n=k+1:=⟨n - 1,by omega⟩
  exact ⟨c,rfl,rfl⟩
 | k+1,n,c,hn,hk,hc=>by
  obtain ⟨n,rfl⟩:∃ k,n=k+1:=⟨n - 1,by omega⟩
  rw [show ((k+1:Nat):Int) - 1=(k:Int) by omega]
  have hd:decide ((k:Int) ≥ 0)=true:=by simp
  have hw:(0:Int)≤IntKind.i64.wrap (8 * (k:Int)):=by rw [wrap_id (x:=8 * (k:Int)) (by omega)]; omega
  have e1:∀ {α:Type} (x:Option α),chk (0≤IntKind.i64.wrap (8 * (k:Int))) x=x:=fun x=>chk_pos hw
  obtain ⟨l,hl,hlen⟩:=writeByte_ex F ((a1.getD v1.toNat 0).fdiv (2 ^ (min (IntKind.i64.wrap (8 * (k:Int))).toNat IntKind.i64.bits))) c (by omega)
  obtain ⟨l',hl',hlen'⟩:=put_L2 F a1 v1 k n l (by omega) (by omega) (by omega)
  refine ⟨l',?_,by omega⟩
  simp only [font_packer_put_L2,hd,cond_true,e1,lett_eq,hl,call_some]
  rw [wrap_id (x:=(k:Int) - 1) (by omega)]
  exact hl'
theorem put_ex (F:Nat) (hF:10≤F) (a:Nat) (ha:a≤8) (b:List Int) (hb:b.length≤8) (c:List UInt8) (hc:c.length≤800000):∃ l,font_packer_put F (a:Int) b c=some l∧l.length=c.length+a * b.length:=by
 obtain ⟨l,h,hl⟩:=range_ex b (fun n s i=>font_packer_put_L0 F a b n i s) (fun i s=>s.length=c.length+a * i∧i≤8) (fun n s i x hx hs=>by
  have hi:=lt_of_get hx
  have hm:a * i≤8 * 8:=Nat.mul_le_mul ha hs.2
  obtain ⟨l,h,hl⟩:=put_L2 F b (i:Int) a F s (by omega) ha (by omega)
  refine ⟨l,?_,by rw [hl,hs.1,Nat.mul_succ]; omega,by omega⟩
  simp only [font_packer_put_L0,dec_lt hi,cond_true,chk_in hi]
  rw [wrap_id (x:=(a:Int) - 1) (by omega),h,call_some,wrap_succ (by omega)]) (fun n s _=>by simp only [font_packer_put_L0,dec_end,cond_false]) F (by omega) c ⟨by simp,by omega⟩
 refine ⟨l,?_,hl.1⟩
 unfold font_packer_put
 simp only [h,call_some]
theorem and15 (x:BitVec IntKind.u32.bits):0≤IntKind.u32.wrap ((x &&& BitVec.ofInt IntKind.u32.bits 15).toNat:Int)∧IntKind.u32.wrap ((x &&& BitVec.ofInt IntKind.u32.bits 15).toNat:Int) < 16:=by
 have h1:(x &&& BitVec.ofInt IntKind.u32.bits 15).toNat≤15:=by
  rw [BitVec.toNat_and]
  exact Nat.and_le_right
 rw [IntKind.wrap_u32]
 omega
theorem sum_ex (F:Nat) (l:List UInt8) (hF:l.length < F) (hl:l.length≤1000000):∃ v,filter_Sum F l=some v:=by
 obtain ⟨v,h,_⟩:=range_ex l (fun n s i=>filter_Sum_L0 F l n s i) (fun _ _=>True) (fun n s i x hx _=>by
  have hi:=lt_of_get hx
  refine ⟨?_,?_,trivial⟩
  rotate_left
  ·simp only [filter_Sum_L0,dec_lt hi,cond_true,chk_in hi,lett_eq,wrap_succ (show i < 9223372036854775807 by omega)]
   rw [chk_pos (and15 _),chk_pos (and15 _)]) (fun n s _=>by simp only [filter_Sum_L0,dec_end,cond_false]) F hF 4294967295 trivial
 unfold filter_Sum
 simp only [h,call_some,lett_eq]
 exact ⟨_,rfl⟩
/-- The bytes of a glyph. -/
def csz (l:List S_FontPoint):Nat:=1+5 * l.length
def gsz (x:S_FontGlyph):Nat:=4+5 * x.f2.length+(x.f1.map csz).sum
theorem written_L4 (F:Nat) (hF:1000≤F) (a0:S_Font) (g j:Nat) (x:List S_FontPoint) (hx:(gly a0 g).f1[j]? = some x) (hl:x.length≤32) (c:List UInt8) (hc:c.length≤700000) :
  ∃ l,font_written_L4 F a0 g j F c 0=some l∧l.length=c.length+5 * x.length:=by
 obtain ⟨l,h,hl⟩:=range_ex x (fun n s i=>font_written_L4 F a0 g j n s i) (fun i s=>s.length=c.length+5 * i) (fun n s i p hp hs=>by
  have hi:=lt_of_get hp
  obtain ⟨l1,h1,e1⟩:=put_ex F (by omega) 1 (by omega) [(bif p.f2 then (1:Int) else 0)] (by simp) s (by omega)
  simp only [List.length_cons,List.length_nil] at e1
  obtain ⟨l2,h2,e2⟩:=put_ex F (by omega) 2 (by omega) [p.f0,p.f1] (by simp) l1 (by omega)
  simp only [List.length_cons,List.length_nil] at e2
  refine ⟨l2,?_,by omega⟩
  simp only [show ((1:Nat):Int)=1 from rfl] at h1
  simp only [show ((2:Nat):Int)=2 from rfl] at h2
  simp only [font_written_L4,Int.toNat_natCast,gly_eq,getD_of hx,dec_lt hi,lett_eq,cond_true,chk_in hi,getD_of hp,wrap_succ (show i < 9223372036854775807 by omega)]
  rw [show (bif p.f2 then some (1:Int) else some 0)=some (bif p.f2 then (1:Int) else 0) by cases p.f2 <;> rfl,call_some,h1,call_some,h2,call_some]) (fun n s _=>by simp only [font_written_L4,Int.toNat_natCast,gly_eq,getD_of hx,dec_end,lett_eq,cond_false]) F (by omega) c (by omega)
 exact ⟨l,h,hl⟩
theorem csum_le:∀ (l:List (List S_FontPoint)),(∀ x∈l,x.length≤32)→(l.map csz).sum≤161 * l.length
 | [],_=>by simp
 | x :: l,hx=>by
  have h1:=hx x List.mem_cons_self
  have h2:=csum_le l fun y hy=>hx y (List.mem_cons_of_mem _ hy)
  rw [List.map_cons,List.sum_cons,List.length_cons,csz]
  omega
theorem written_L2 (F:Nat) (hF:1000≤F) {a0:S_Font} (ok:FontOk a0) {g:Nat} (hg:g < a0.f1.length) (c:List UInt8) (hc:c.length≤600000) :
  ∃ l,font_written_L2 F a0 g F c 0=some l∧l.length=c.length+((gly a0 g).f1.map csz).sum:=by
 have hgo:=ok.ok g hg
 have hcl:=hgo.cons
 obtain ⟨l,h,hl⟩:=range_ex (gly a0 g).f1 (fun n s i=>font_written_L2 F a0 g n s i) (fun i s=>s.length=c.length+(((gly a0 g).f1.take i).map csz).sum) (fun n s i x hx hs=>by
  have hi:=lt_of_get hx
  have hx32:=hgo.con x (List.mem_of_getElem? hx)
  have hle:=csum_le ((gly a0 g).f1.take i) (fun y hy=>hgo.con y (List.mem_of_mem_take hy))
  have htl:((gly a0 g).f1.take i).length≤8:=by rw [List.length_take]; omega
  obtain ⟨l1,h1,e1⟩:=put_ex F (by omega) 1 (by omega) [(x.length:Int)] (by simp) s (by omega)
  simp only [List.length_cons,List.length_nil] at e1
  obtain ⟨l2,h2,e2⟩:=written_L4 F hF a0 g i x hx hx32 l1 (by omega)
  refine ⟨l2,?_,by rw [take_sum csz _ _ _ hx,csz]; omega⟩
  simp only [show ((1:Nat):Int)=1 from rfl] at h1
  simp only [font_written_L2,Int.toNat_natCast,gly_eq,dec_lt hi,cond_true,chk_in hi,getD_of hx,h1,h2,call_some,wrap_succ (show i < 9223372036854775807 by omega)]) (fun n s _=>by simp only [font_written_L2,Int.toNat_natCast,gly_eq,dec_end,cond_false]) F (by omega) c (by simp)
 exact ⟨l,h,by rw [hl,List.take_length]⟩
theorem written_L6 (F:Nat) (hF:1000≤F) {a0:S_Font} (ok:FontOk a0) {g:Nat} (hg:g < a0.f1.length) (c:List UInt8) (hc:c.length≤600000) :
  ∃ l,font_written_L6 F a0 g F c 0=some l∧l.length=c.length+5 * (gly a0 g).f2.length:=by
 have hgo:=ok.ok g hg
 have hpl:=hgo.parts
 obtain ⟨l,h,hl⟩:=range_ex (gly a0 g).f2 (fun n s i=>font_written_L6 F a0 g n s i) (fun i s=>s.length=c.length+5 * i) (fun n s i x hx hs=>by
  have hi:=lt_of_get hx
  obtain ⟨l1,h1,e1⟩:=put_ex F (by omega) 1 (by omega) [x.f0] (by simp) s (by omega)
  simp only [List.length_cons,List.length_nil] at e1
  obtain ⟨l2,h2,e2⟩:=put_ex F (by omega) 2 (by omega) [x.f1,x.f2] (by simp) l1 (by omega)
  simp only [List.length_cons,List.length_nil] at e2
  refine ⟨l2,?_,by omega⟩
  simp only [show ((1:Nat):Int)=1 from rfl] at h1
  simp only [show ((2:Nat):Int)=2 from rfl] at h2
  simp only [font_written_L6,Int.toNat_natCast,gly_eq,dec_lt hi,cond_true,chk_in hi,getD_of hx,h1,h2,call_some,wrap_succ (show i < 9223372036854775807 by omega)]) (fun n s _=>by simp only [font_written_L6,Int.toNat_natCast,gly_eq,dec_end,cond_false]) F (by omega) c (by omega)
 exact ⟨l,h,hl⟩
theorem gsz_le {n:Nat} {x:S_FontGlyph} (h:GlyOk n x):gsz x≤1312:=by
 have:=csum_le x.f1 h.con
 have:=h.cons
 have:=h.parts
 unfold gsz
 omega
theorem gsum_le {n:Nat}:∀ (l:List S_FontGlyph),(∀ x∈l,GlyOk n x)→(l.map gsz).sum≤1312 * l.length
 | [],_=>by simp
 | x :: l,hx=>by
  have h1:=gsz_le (hx x List.mem_cons_self)
  have h2:=gsum_le l fun y hy=>hx y (List.mem_cons_of_mem _ hy)
  rw [List.map_cons,List.sum_cons,List.length_cons]
  omega
theorem gly_get {a0:S_Font} {i:Nat} {x:S_FontGlyph} (h:a0.f1[i]? = some x):gly a0 i=x:=getD_of h
theorem ok_mem {a0:S_Font} (ok:FontOk a0):∀ x∈a0.f1,GlyOk a0.f1.length x:=by
 intro x hx
 obtain ⟨i,hi,rfl⟩:=List.getElem_of_mem hx
 have:=ok.ok i hi
 rwa [gly_get (List.getElem?_eq_getElem hi)] at this
theorem written_L0 (F:Nat) (hF:1000≤F) {a0:S_Font} (ok:FontOk a0):∃ l,font_written_L0 F a0 F [] 0=some l∧l.length=(a0.f1.map gsz).sum:=by
 have hlen:=ok.len
 obtain ⟨l,h,hl⟩:=range_ex a0.f1 (fun n s i=>font_written_L0 F a0 n s i) (fun i s=>s.length=((a0.f1.take i).map gsz).sum) (fun n s i x hx hs=>by
  have hi:=lt_of_get hx
  have hgx:=gly_get hx
  have hle:=gsum_le (n:=a0.f1.length) (a0.f1.take i) (fun y hy=>ok_mem ok y (List.mem_of_mem_take hy))
  have htl:(a0.f1.take i).length≤128:=by rw [List.length_take]; omega
  have hg1:=(ok.ok i hi).cons
  have hg2:=(ok.ok i hi).parts
  obtain ⟨l1,h1,e1⟩:=put_ex F (by omega) 2 (by omega) [(gly a0 i).f0] (by simp) s (by omega)
  simp only [List.length_cons,List.length_nil] at e1
  obtain ⟨l2,h2,e2⟩:=put_ex F (by omega) 1 (by omega) [((gly a0 i).f1.length:Int),((gly a0 i).f2.length:Int)] (by simp) l1 (by omega)
  simp only [List.length_cons,List.length_nil] at e2
  obtain ⟨l3,h3,e3⟩:=written_L2 F hF ok hi l2 (by omega)
  have hcs:=csum_le (gly a0 i).f1 (ok.ok i hi).con
  obtain ⟨l4,h4,e4⟩:=written_L6 F hF ok hi l3 (by omega)
  refine ⟨l4,?_,by rw [take_sum gsz _ _ _ hx,← hgx,gsz]; omega⟩
  simp only [show ((1:Nat):Int)=1 from rfl] at h2
  simp only [show ((2:Nat):Int)=2 from rfl] at h1
  simp only [font_written_L0,Int.toNat_natCast,gly_eq,dec_lt hi,cond_true,chk_in hi,h1,h2,h3,h4,call_some,wrap_succ (show i < 9223372036854775807 by omega)]) (fun n s _=>by simp only [font_written_L0,dec_end,cond_false]) F (by omega) [] (by simp)
 exact ⟨l,h,by rw [hl,List.take_length]⟩
theorem written_L8 (F:Nat) (hF:1000≤F) (a0:S_Font) (hl:a0.f2.length≤64):∃ l,font_written_L8 F a0 F [] 0=some l∧l.length=7 * a0.f2.length:=by
 obtain ⟨l,h,hl⟩:=range_ex a0.f2 (fun n s i=>font_written_L8 F a0 n s i) (fun i s=>s.length=7 * i) (fun n s i x hx hs=>by
  have hi:=lt_of_get hx
  obtain ⟨l1,h1,e1⟩:=put_ex F (by omega) 3 (by omega) [x.f0,x.f1] (by simp) s (by omega)
  simp only [List.length_cons,List.length_nil] at e1
  obtain ⟨l2,h2,e2⟩:=put_ex F (by omega) 1 (by omega) [x.f2] (by simp) l1 (by omega)
  simp only [List.length_cons,List.length_nil] at e2
  refine ⟨l2,?_,by omega⟩
  simp only [show ((3:Nat):Int)=3 from rfl] at h1
  simp only [show ((1:Nat):Int)=1 from rfl] at h2
  simp only [font_written_L8,Int.toNat_natCast,dec_lt hi,cond_true,chk_in hi,getD_of hx,h1,h2,call_some,wrap_succ (show i < 9223372036854775807 by omega)]) (fun n s _=>by simp only [font_written_L8,dec_end,cond_false]) F (by omega) [] (by simp)
 exact ⟨l,h,hl⟩
theorem written_L10 (F:Nat) (hF:1000≤F) (a0:S_Font) (hl:a0.f3.length≤128):∃ l,font_written_L10 F a0 F [] 0=some l∧l.length=4 * a0.f3.length:=by
 obtain ⟨l,h,hl⟩:=range_ex a0.f3 (fun n s i=>font_written_L10 F a0 n s i) (fun i s=>s.length=4 * i) (fun n s i x hx hs=>by
  have hi:=lt_of_get hx
  obtain ⟨l1,h1,e1⟩:=put_ex F (by omega) 1 (by omega) [x.f0,x.f1] (by simp) s (by omega)
  simp only [List.length_cons,List.length_nil] at e1
  obtain ⟨l2,h2,e2⟩:=put_ex F (by omega) 2 (by omega) [x.f2] (by simp) l1 (by omega)
  simp only [List.length_cons,List.length_nil] at e2
  refine ⟨l2,?_,by omega⟩
  simp only [show ((1:Nat):Int)=1 from rfl] at h1
  simp only [show ((2:Nat):Int)=2 from rfl] at h2
  simp only [font_written_L10,Int.toNat_natCast,dec_lt hi,cond_true,chk_in hi,getD_of hx,h1,h2,call_some,wrap_succ (show i < 9223372036854775807 by omega)]) (fun n s _=>by simp only [font_written_L10,dec_end,cond_false]) F (by omega) [] (by simp)
 exact ⟨l,h,hl⟩
theorem writeString_eq (F:Nat) (a c:List UInt8) (h:c.length+a.length≤4294967296):strings_Builder_WriteString F a c=some ((a.length:Int),(),c++a):=by
 unfold strings_Builder_WriteString
 rw [chk_pos h]
theorem written_L12 (F:Nat) (hF:300000≤F) (x y z c:List UInt8) (hx:x.length≤200000) (hy:y.length≤1000) (hz:z.length≤1000) (hc:c.length≤1000) :
  ∃ l,font_written_L12 F x y z F c 0=some l∧l.length=c.length+18+x.length+y.length+z.length:=by
 obtain ⟨l,h,hl⟩:=range_ex [x,y,z] (fun n s i=>font_written_L12 F x y z n s i) (fun i s=>s.length=c.length+(([x,y,z].take i).map fun l=>6+l.length).sum) (fun n s i p hp hs=>by
  have hi:=lt_of_get hp
  have hpl:p.length≤200000:=by
   have:=List.mem_of_getElem? hp
   simp only [List.mem_cons,List.not_mem_nil,or_false] at this
   rcases this with rfl | rfl | rfl <;> omega
  have hsl:s.length≤500000:=by
   rw [hs]
   simp only [List.length_cons,List.length_nil] at hi
   rcases i with _ | _ | _ | i
   ·simp; omega
   ·simp; omega
   ·simp; omega
   ·omega
  obtain ⟨l1,h1,e1⟩:=put_ex F (by omega) 2 (by omega) [(p.length:Int)] (by simp) s (by omega)
  simp only [List.length_cons,List.length_nil] at e1
  obtain ⟨v,hv⟩:=sum_ex F p (by omega) (by omega)
  obtain ⟨l2,h2,e2⟩:=put_ex F (by omega) 4 (by omega) [IntKind.i64.wrap v] (by simp) l1 (by omega)
  simp only [List.length_cons,List.length_nil] at e2
  refine ⟨l2++p,?_,by rw [take_sum (fun l:List UInt8=>6+l.length) _ _ _ hp,List.length_append]; omega⟩
  simp only [show ((2:Nat):Int)=2 from rfl] at h1
  simp only [show ((4:Nat):Int)=4 from rfl] at h2
  simp only [font_written_L12,Int.toNat_natCast,dec_lt hi,cond_true,chk_in hi,getD_of hp,h1,hv,h2,call_some,writeString_eq F p l2 (by omega),wrap_succ (show i < 9223372036854775807 by simp only [List.length_cons,List.length_nil] at hi; omega)]) (fun n s _=>by simp only [font_written_L12,dec_end,cond_false]) F (by simp; omega) c (by simp)
 refine ⟨l,h,?_⟩
 rw [hl]
 simp
 omega
theorem written_ex (F:Nat) (hF:300000≤F) {a0:S_Font} (ok:FontOk a0) (h2:a0.f2.length≤64) (h3:a0.f3.length≤128) :
  ∃ l,font_written F a0=some l∧l.length=27+7 * a0.f2.length+4 * a0.f3.length+(a0.f1.map gsz).sum:=by
 have hlen:=ok.len
 obtain ⟨x,hx,ex⟩:=written_L0 F (by omega) ok
 obtain ⟨y,hy,ey⟩:=written_L8 F (by omega) a0 h2
 obtain ⟨z,hz,ez⟩:=written_L10 F (by omega) a0 h3
 have hle:=gsum_le a0.f1 (ok_mem ok)
 obtain ⟨l1,h1,e1⟩:=put_ex F (by omega) 2 (by omega) [a0.f0] (by simp) [102,111,110,116] (by simp)
 simp only [List.length_cons,List.length_nil] at e1
 obtain ⟨l2,hl2,e2⟩:=put_ex F (by omega) 1 (by omega) [(a0.f1.length:Int),(a0.f2.length:Int),(a0.f3.length:Int)] (by simp) l1 (by omega)
 simp only [List.length_cons,List.length_nil] at e2
 obtain ⟨l3,hl3,e3⟩:=written_L12 F hF x y z l2 (by omega) (by omega) (by omega) (by omega)
 refine ⟨l3,?_,by omega⟩
 simp only [show ((2:Nat):Int)=2 from rfl] at h1
 simp only [show ((1:Nat):Int)=1 from rfl] at hl2
 unfold font_written
 simp only [hx,hy,hz,call_some,writeString_eq F [102,111,110,116] [] (by simp),List.nil_append,h1,hl2]
 rw [chk_pos (by omega),chk_pos (by omega),chk_pos (by omega),hl3,call_some,chk_pos (by omega)]
end Go.Vm.SubG
