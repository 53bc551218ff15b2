/-
  IMPOSE,PLAIN,part 1: rasters of one value; pasting.
-/
import Derived.Test.YteidenpelbooeaaBinLn
namespace Go.Vm.BinG
theorem build_v4_L2_eq (F:Nat) {w r:Nat} (b:UInt8) (hw:w≤1024) :
    ∀ (m c n:Nat) (acc:List UInt8),c+m=w→m < n→acc.length+m≤4294967296 →
      raster_build_uint8_v4_L2 F w r n acc c ((b.toNat:Nat):Int)=some (acc++(List.range' c m).map (fun _=>b),((b.toNat:Nat):Int)):=by
  intro m
  induction m with
  | zero =>
    intro c n acc h hn _
    obtain ⟨n,rfl⟩:∃ k,n=k+1:=⟨n - 1,by omega⟩
    obtain rfl:c=w:=by omega
    rw [raster_build_uint8_v4_L2,dec_end,cond_false]
    simp
  | succ m ih =>
    intro c n acc h hn hl
    obtain ⟨n,rfl⟩:∃ k,n=k+1:=⟨n - 1,by omega⟩
    rw [raster_build_uint8_v4_L2,dec_lt (show c < w by omega),cond_true]
    unfold raster_Make_uint8_c1
    rw [call_some,chk_pos (u8_rng _),chk_pos (by simp; omega),wrap_succ (by omega),u8_back]
    refine (ih (c+1) n _ (by omega) (by omega) (by simp; omega)).trans ?_
    simp [List.range'_succ]
theorem build_v4_L0_eq {F w h:Nat} (b:UInt8) (hw:w≤1024) (hh:h≤1024) (hF:1024 < F) :
    ∀ (m r n:Nat) (acc:List UInt8),r+m=h→m < n→acc.length+m * w≤4294967296 →
      raster_build_uint8_v4_L0 F w h n acc r ((b.toNat:Nat):Int)=some (acc++(List.range' r m).flatMap (fun _=>(List.range' 0 w).map fun _=>b),((b.toNat:Nat):Int)):=by
  intro m
  induction m with
  | zero =>
    intro r n acc h' hn _
    obtain ⟨n,rfl⟩:∃ k,n=k+1:=⟨n - 1,by omega⟩
    obtain rfl:r=h:=by omega
    rw [raster_build_uint8_v4_L0,dec_end,cond_false]
    simp
  | succ m ih =>
    intro r n acc h' hn hl
    obtain ⟨n,rfl⟩:∃ k,n=k+1:=⟨n - 1,by omega⟩
    rw [Nat.add_mul,Nat.one_mul] at hl
    have e:=build_v4_L2_eq F (r:=r) b hw w 0 F acc (by omega) (by omega) (by omega)
    rw [raster_build_uint8_v4_L0,dec_lt (show r < h by omega),cond_true]
    rw [show (0:Int)=((0:Nat):Int) from rfl,e,call_some,wrap_succ (by omega)]
    refine (ih (r+1) n _ (by omega) (by omega) (by simp; omega)).trans ?_
    simp [List.range'_succ]
/-- A raster of one value. -/
theorem make_ok {F w h:Nat} (hF:1024 < F) (hw:1≤w∧w≤1024) (hh:1≤h∧h≤1024) (b:UInt8):raster_Make_uint8 F w h ((b.toNat:Nat):Int)=some (⟨w,h,grid w h fun _ _=>b⟩,0):=by
  have hm:=mul_1024 hw.2 hh.2
  have hz:IntKind.i64.wrap ((w:Int) * h)=((w * h:Nat):Int):=by rw [← Int.natCast_mul]; exact wrap_id (by omega)
  have e:=build_v4_L0_eq (w:=w) (h:=h) b hw.2 hh.2 hF h 0 F [] (by omega) (by omega) (by simp; rw [Nat.mul_comm]; omega)
  have hs:raster_sized F w h=some true:=by
    unfold raster_sized
    simp only [lett_eq,and_cond]
    congr 1
    simp only [Bool.and_eq_true,decide_eq_true_eq]
    omega
  have hb:raster_build_uint8_v4 F w h ((b.toNat:Nat):Int)=some (⟨w,h,grid w h fun _ _=>b⟩,((b.toNat:Nat):Int)):=by
    unfold raster_build_uint8_v4
    rw [hz,chk_pos (by omega)]
    rw [show (List.replicate (0:Int).toNat (0:UInt8))=[] from rfl,show (0:Int)=((0:Nat):Int) from rfl,e,call_some]
    rfl
  unfold raster_Make_uint8
  rw [hs,call_some,Bool.not_true,cond_false,hb,call_some]
theorem getD_spl {lo:Nat} {ds l:List UInt8} (h:lo+ds.length≤l.length) (j:Nat):(spl lo ds l).getD j 0=if lo≤j∧j < lo+ds.length then ds.getD (j - lo) 0 else l.getD j 0:=by
  rw [List.getD_eq_getElem?_getD,spl_get h]
  split <;> rw [List.getD_eq_getElem?_getD]
theorem getD_cut_take {l:List UInt8} {n j:Nat} (hj:j < n):(l.take n).getD j 0=l.getD j 0:=by
  simp [List.getD_eq_getElem?_getD,hj]
theorem getD_cut {l:List UInt8} {a n j:Nat} (hj:j < n):((l.drop a).take n).getD j 0=l.getD (a+j) 0:=by
  simp [List.getD_eq_getElem?_getD,hj]
theorem row_of {W H x y r c:Nat} (hx:x < W) (hc:c < W) (h:y * W+x=r * W+c):y=r∧x=c:=by
  have hW:0 < W:=by omega
  have e1:(y * W+x) / W=y:=by rw [Nat.mul_comm,Nat.mul_add_div hW,Nat.div_eq_of_lt hx]; omega
  have e2:(r * W+c) / W=r:=by rw [Nat.mul_comm,Nat.mul_add_div hW,Nat.div_eq_of_lt hc]; omega
  have:y=r:=by rw [← e1,h,e2]
  subst this
  exact ⟨rfl,by omega⟩
/-- One row is pasted. -/
theorem Paste_L0_eq {F:Nat} {g p:S_Plate} {W H w h X Y:Nat} (vg:VP g W H) (vp:VP p w h) (hX:X+w≤W) (hY:Y+h≤H) :
    ∀ (m j n:Nat) (l:List UInt8),j+m=h→m < n→l.length=W * H →
      ∃ r,raster_Grid_uint8_Paste_L0 F g X Y p n l j=some r∧r.length=W * H∧∀ x y,x < W→y < H→r.getD (y * W+x) 0=if X≤x∧x < X+w∧Y+j≤y∧y < Y+h then p.f2.getD ((y - Y) * w+(x - X)) 0 else l.getD (y * W+x) 0:=by
  have h1:=vg.bw
  have h2:=vg.bh
  have h3:=vp.bw
  have h4:=vp.bh
  intro m
  induction m with
  | zero =>
    intro j n l hj hn hl
    obtain ⟨n,rfl⟩:∃ k,n=k+1:=⟨n - 1,by omega⟩
    refine ⟨l,?_,hl,fun x y _ _=>by rw [if_neg (by omega)]⟩
    rw [raster_Grid_uint8_Paste_L0,vp.h,show decide ((j:Int) < (h:Int))=false from decide_eq_false (by omega),cond_false,cond_false]
  | succ m ih =>
    intro j n l hj hn hl
    obtain ⟨n,rfl⟩:∃ k,n=k+1:=⟨n - 1,by omega⟩
    have w0:IntKind.i64.wrap (0 - (X:Int)) = -(X:Int):=by rw [wrap_id (by omega)]; omega
    have w1:IntKind.i64.wrap ((W:Int) - X)=((W - X:Nat):Int):=by rw [wrap_id (by omega)]; omega
    have w2:IntKind.i64.wrap ((Y:Int)+j)=((Y+j:Nat):Int):=by rw [wrap_id (by omega)]; omega
    have w3:IntKind.i64.wrap (((Y+j:Nat):Int)+1)=((Y+j+1:Nat):Int):=wrap_succ (by omega)
    have f0:(if (0:Int) < -(X:Int) then -(X:Int) else (0:Int))=0:=if_neg (by omega)
    have f1:(if ((W - X:Nat):Int) < (w:Int) then ((W - X:Nat):Int) else (w:Int))=w:=if_neg (by omega)
    have m1:=mul_1024 (a:=Y+j+1) (b:=W) (by omega) (by omega)
    have m2:=mul_1024 (a:=j) (b:=w) (by omega) (by omega)
    have m3:(Y+j+1) * W=(Y+j) * W+W:=by rw [Nat.add_mul,Nat.one_mul]
    have m4:(Y+j+1) * W≤W * H:=by rw [Nat.mul_comm W H]; exact Nat.mul_le_mul_right _ (by omega)
    have m5:(j+1) * w≤w * h:=by rw [Nat.mul_comm w h]; exact Nat.mul_le_mul_right _ (by omega)
    rw [Nat.add_mul,Nat.one_mul] at m5
    have w4:IntKind.i64.wrap (((Y+j:Nat):Int) * W)=(((Y+j) * W:Nat):Int):=by rw [← Int.natCast_mul,wrap_id (by omega)]
    have w5:IntKind.i64.wrap (((Y+j+1:Nat):Int) * W)=(((Y+j+1) * W:Nat):Int):=by rw [← Int.natCast_mul,wrap_id (by omega)]
    have w6:IntKind.i64.wrap ((X:Int)+0)=X:=by rw [wrap_id (by omega)]; omega
    have w7:IntKind.i64.wrap ((X:Int)+w)=((X+w:Nat):Int):=by rw [wrap_id (by omega)]; omega
    have w8:IntKind.i64.wrap ((j:Int) * w)=((j * w:Nat):Int):=by rw [← Int.natCast_mul,wrap_id (by omega)]
    have w9:IntKind.i64.wrap (((j * w:Nat):Int)+0)=((j * w:Nat):Int):=by rw [wrap_id (by omega)]; omega
    have w10:IntKind.i64.wrap (((j * w:Nat):Int)+w)=((j * w+w:Nat):Int):=by rw [wrap_id (by omega)]; omega
    have hlen:((p.f2.drop (j * w)).take (j * w+w - j * w)).length=w:=by
      rw [List.length_take,List.length_drop,vp.len]
      omega
    have hseg:((((p.f2.drop (j * w)).take (j * w+w - j * w))).take (X+w - X)).length=w:=by
      rw [List.length_take,hlen]
      omega
    have hfit:(Y+j) * W+X+((((p.f2.drop (j * w)).take (j * w+w - j * w))).take (X+w - X)).length≤l.length:=by rw [hseg,hl]; omega
    obtain ⟨r,hr1,hr2,hr3⟩:=ih (j+1) n (spl ((Y+j) * W+X) ((((p.f2.drop (j * w)).take (j * w+w - j * w))).take (X+w - X)) l) (by omega) (by omega) (by rw [spl_len hfit,hl])
    refine ⟨r,?_,hr2,fun x y hx hy=>?_⟩
    · rw [raster_Grid_uint8_Paste_L0,vp.h,vg.h,vg.w,vp.w,w2,show decide ((j:Int) < (h:Int))=true from decide_eq_true (by omega),cond_true,show decide (((Y+j:Nat):Int) < (H:Int))=true from decide_eq_true (by omega),cond_true]
      simp only [w0,w1,f0,f1,w3,w4,w5,w6,w7,w8,w9,w10,lett_eq]
      rw [show decide ((0:Int) < (w:Int))=true from decide_eq_true (by omega),cond_true]
      simp only [Int.toNat_natCast]
      rw [chk_pos (by omega),chk_pos (by omega),chk_pos (by rw [vp.len]; omega),chk_pos ⟨by rw [hlen]; omega,by omega⟩,call_some,wrap_succ (by omega)]
      exact hr1
    · rw [hr3 x y hx hy,getD_spl hfit,hseg]
      by_cases hrow:y=Y+j
      · subst hrow
        by_cases hxx:X≤x∧x < X+w
        · rw [if_neg (by omega),if_pos (by omega),if_pos (by omega)]
          have e:(Y+j) * W+x - ((Y+j) * W+X)=x - X:=by omega
          rw [e,getD_cut_take (by omega),getD_cut (by omega)]
          congr 1
          have:Y+j - Y=j:=by omega
          rw [this]
        · rw [if_neg (by omega),if_neg (by omega),if_neg (by omega)]
      · have hne:¬ ((Y+j) * W+X≤y * W+x∧y * W+x < (Y+j) * W+X+w):=by
          intro hc
          obtain ⟨c,hc1⟩:∃ c,y * W+x=(Y+j) * W+c:=⟨y * W+x - (Y+j) * W,by omega⟩
          have:=row_of (H:=H) hx (show c < W by omega) hc1
          exact hrow this.1
        rw [if_neg hne]
        by_cases hin:X≤x∧x < X+w∧Y+j≤y∧y < Y+h
        · rw [if_pos hin,if_pos (by omega)]
        · rw [if_neg hin,if_neg (by omega)]
/-- Pasting. -/
theorem paste_ok {F:Nat} (hF:1024 < F) {g p:S_Plate} {W H w h X Y:Nat} (vg:VP g W H) (vp:VP p w h) (hX:X+w≤W) (hY:Y+h≤H) :
    ∃ r,raster_Grid_uint8_Paste F g X Y p=some (r,0)∧VP r W H∧∀ x y,x < W→y < H→r.f2.getD (y * W+x) 0=if X≤x∧x < X+w∧Y≤y∧y < Y+h then p.f2.getD ((y - Y) * w+(x - X)) 0 else g.f2.getD (y * W+x) 0:=by
  have h1:=vg.bw
  have h2:=vg.bh
  have h3:=vp.bw
  have h4:=vp.bh
  obtain ⟨r,hr1,hr2,hr3⟩:=Paste_L0_eq (F:=F) vg vp hX hY h 0 F g.f2 (by omega) (by omega) vg.len
  refine ⟨⟨W,H,r⟩,?_,⟨rfl,rfl,h1,h2,hr2⟩,fun x y hx hy=>by simpa using hr3 x y hx hy⟩
  have f0:(if (0:Int) < IntKind.i64.wrap (0 - (Y:Int)) then IntKind.i64.wrap (0 - (Y:Int)) else (0:Int))=0:=if_neg (by rw [wrap_id (by omega)]; omega)
  unfold raster_Grid_uint8_Paste
  rw [check_eq,vg.zero,call_some,bne_self_eq_false,cond_false,check_eq,vp.zero,call_some,bne_self_eq_false,cond_false]
  simp only [lett_eq,or_cond]
  have hb:(((decide ((X:Int) < -1024) || decide ((X:Int) > 1024)) || decide ((Y:Int) < -1024)) || decide ((Y:Int) > 1024))=false:=by
    rw [← Bool.not_eq_true]
    simp only [Bool.or_eq_true,decide_eq_true_eq]
    omega
  rw [hb,cond_false,clone_eq F _ (by have:=vg.le; omega),call_some,f0]
  rw [Int.natCast_zero] at hr1
  rw [hr1,call_some,vg.w,vg.h]
end Go.Vm.BinG
