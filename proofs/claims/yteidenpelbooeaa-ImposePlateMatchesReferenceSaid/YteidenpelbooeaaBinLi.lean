/-
  BINDERY,PLAIN,part 1: rectangles of pixels.
-/
import Derived.Test.YteidenpelbooeaaBinLh
import Derived.Test.YteidenpelbooeaaVmC
namespace Go.Vm.BinG
theorem u8_back (b:UInt8):UInt8.ofNat ((b.toNat:Int)).toNat=b:=by simp
theorem u8_rng (b:UInt8):0≤(b.toNat:Int)∧(b.toNat:Int) < 256:=⟨by omega,by have:=b.toNat_lt; omega⟩
theorem mul_1024 {a b:Nat} (ha:a≤1024) (hb:b≤1024):a * b≤1048576:=Nat.le_trans (Nat.mul_le_mul ha hb) (by decide)
theorem idx_lt {W H x y:Nat} (hx:x < W) (hy:y < H):y * W+x < W * H:=by
  have:=Nat.mul_le_mul_right W (show y+1≤H from hy)
  rw [Nat.add_mul,Nat.one_mul] at this
  rw [Nat.mul_comm W H]
  omega
theorem clone_eq (F:Nat) (l:List UInt8) (h:l.length≤4294967296):slices_Clone_uint8 F l=some l:=by
  unfold slices_Clone_uint8
  rw [chk_pos (by simpa using h)]
  simp
theorem of_eq (F:Nat) (p:S_Plate) (h:p.f2.length≤4294967296):raster_Of F p=some p:=by
  unfold raster_Of
  rw [clone_eq F _ h,call_some]
theorem plate_eq (F:Nat) (p:S_Plate) (h:p.f2.length≤4294967296):raster_Plate F p=some p:=by
  unfold raster_Plate
  rw [clone_eq F _ h,call_some]
/-- The error of a plate. -/
def chkE (p:S_Plate):Int:=if 1≤p.f0∧p.f0≤1024∧1≤p.f1∧p.f1≤1024 then if (p.f2.length:Int)=p.f0 * p.f1 then 0 else 4 else 3
theorem mulI_1024 {a b:Int} (ha:1≤a∧a≤1024) (hb:1≤b∧b≤1024):0≤a * b∧a * b≤1048576:=by
  obtain ⟨x,rfl⟩:∃ x:Nat,a=x:=⟨a.toNat,by omega⟩
  obtain ⟨y,rfl⟩:∃ y:Nat,b=y:=⟨b.toNat,by omega⟩
  have:=mul_1024 (a:=x) (b:=y) (by omega) (by omega)
  rw [← Int.natCast_mul]
  omega
theorem check_eq (F:Nat) (p:S_Plate):raster_Grid_uint8_Check F p=some (chkE p):=by
  unfold raster_Grid_uint8_Check raster_sized chkE
  simp only [lett_eq,call_some,and_cond]
  by_cases h:1≤p.f0∧p.f0≤1024∧1≤p.f1∧p.f1≤1024
  · have hb:(((decide (p.f0 ≥ 1) && decide (p.f0≤1024)) && decide (p.f1 ≥ 1)) && decide (p.f1≤1024))=true:=by
      simp only [Bool.and_eq_true,decide_eq_true_eq]
      omega
    have hm:=mulI_1024 ⟨h.1,h.2.1⟩ h.2.2
    rw [hb,wrap_id (by omega),if_pos h,Bool.not_true,cond_false]
    by_cases hl:(p.f2.length:Int)=p.f0 * p.f1
    · rw [if_pos hl,hl,bne_self_eq_false,cond_false]
    · have:((p.f2.length:Int) != p.f0 * p.f1)=true:=by simpa using hl
      rw [if_neg hl,this,cond_true]
  · have hb:(((decide (p.f0 ≥ 1) && decide (p.f0≤1024)) && decide (p.f1 ≥ 1)) && decide (p.f1≤1024))=false:=by
      rw [← Bool.not_eq_true]
      simp only [Bool.and_eq_true,decide_eq_true_eq]
      omega
    rw [hb,if_neg h,Bool.not_false,cond_true]
/-- A plate without an error. -/
structure VP (p:S_Plate) (W H:Nat):Prop where
  w:p.f0=W
  h:p.f1=H
  bw:1≤W∧W≤1024
  bh:1≤H∧H≤1024
  len:p.f2.length=W * H
theorem VP.zero {p:S_Plate} {W H:Nat} (v:VP p W H):chkE p=0:=by
  unfold chkE
  have h1:=v.bw
  have h2:=v.bh
  rw [v.w,v.h,v.len,if_pos (by omega),if_pos (by push_cast; rfl)]
theorem VP.le {p:S_Plate} {W H:Nat} (v:VP p W H):p.f2.length≤1048576:=by rw [v.len]; exact mul_1024 v.bw.2 v.bh.2
theorem vp_grid {w h:Nat} (hw:1≤w∧w≤1024) (hh:1≤h∧h≤1024) (G:Nat→Nat→UInt8):VP ⟨w,h,grid w h G⟩ w h:=⟨rfl,rfl,hw,hh,by rw [grid_length,Nat.mul_comm]⟩
theorem build_v1_L2_eq (F:Nat) {w r:Nat} {s0:Int} {s1:Int} {s2:List UInt8} {s3:Int} {s4:Int} (g:Nat→UInt8) (hw:w≤1024) :
    ∀ (m c n:Nat) (acc:List UInt8),c+m=w→m < n→acc.length+m≤4294967296→(∀ c':Nat,c' < w→raster_Grid_uint8_Turn_c1 F (c':Int) (r:Int) s0 s1 s2 s3 s4=some (((g c').toNat:Int),s0,s1,s2,s3,s4)) →
      raster_build_uint8_v1_L2 F w r n acc c s0 s1 s2 s3 s4=some (acc++(List.range' c m).map g,s0,s1,s2,s3,s4):=by
  intro m
  induction m with
  | zero =>
    intro c n acc h hn _ _
    obtain ⟨n,rfl⟩:∃ k,n=k+1:=⟨n - 1,by omega⟩
    obtain rfl:c=w:=by omega
    rw [raster_build_uint8_v1_L2,dec_end,cond_false]
    simp
  | succ m ih =>
    intro c n acc h hn hl hc
    obtain ⟨n,rfl⟩:∃ k,n=k+1:=⟨n - 1,by omega⟩
    rw [raster_build_uint8_v1_L2,dec_lt (show c < w by omega),cond_true,hc c (by omega),call_some,chk_pos (u8_rng _),chk_pos (by simp; omega),wrap_succ (by omega),u8_back]
    refine (ih (c+1) n _ (by omega) (by omega) (by simp; omega) hc).trans ?_
    simp [List.range'_succ]
theorem build_v1_L0_eq {F w h:Nat} {s0:Int} {s1:Int} {s2:List UInt8} {s3:Int} {s4:Int} (G:Nat→Nat→UInt8) (hw:w≤1024) (hh:h≤1024) (hF:1024 < F) (hc:∀ c' r':Nat,c' < w→r' < h→raster_Grid_uint8_Turn_c1 F (c':Int) (r':Int) s0 s1 s2 s3 s4=some (((G c' r').toNat:Int),s0,s1,s2,s3,s4)) :
    ∀ (m r n:Nat) (acc:List UInt8),r+m=h→m < n→acc.length+m * w≤4294967296 →
      raster_build_uint8_v1_L0 F w h n acc r s0 s1 s2 s3 s4=some (acc++(List.range' r m).flatMap (fun r=>(List.range' 0 w).map fun c=>G c r),s0,s1,s2,s3,s4):=by
  intro m
  induction m with
  | zero =>
    intro r n acc h' hn _
    obtain ⟨n,rfl⟩:∃ k,n=k+1:=⟨n - 1,by omega⟩
    obtain rfl:r=h:=by omega
    rw [raster_build_uint8_v1_L0,dec_end,cond_false]
    simp
  | succ m ih =>
    intro r n acc h' hn hl
    obtain ⟨n,rfl⟩:∃ k,n=k+1:=⟨n - 1,by omega⟩
    rw [Nat.add_mul,Nat.one_mul] at hl
    have e:=build_v1_L2_eq F (r:=r) (fun c=>G c r) hw w 0 F acc (by omega) (by omega) (by omega) (fun c' h1=>hc c' r h1 (by omega))
    rw [raster_build_uint8_v1_L0,dec_lt (show r < h by omega),cond_true]
    rw [show (0:Int)=((0:Nat):Int) from rfl,e,call_some,wrap_succ (by omega)]
    refine (ih (r+1) n _ (by omega) (by omega) (by simp; omega)).trans ?_
    simp [List.range'_succ]
theorem build_v1_eq {F w h:Nat} {s0:Int} {s1:Int} {s2:List UInt8} {s3:Int} {s4:Int} (G:Nat→Nat→UInt8) (hw:w≤1024) (hh:h≤1024) (hF:1024 < F) (hc:∀ c' r':Nat,c' < w→r' < h→raster_Grid_uint8_Turn_c1 F (c':Int) (r':Int) s0 s1 s2 s3 s4=some (((G c' r').toNat:Int),s0,s1,s2,s3,s4)) :
    raster_build_uint8_v1 F w h s0 s1 s2 s3 s4=some (⟨w,h,grid w h G⟩,s0,s1,s2,s3,s4):=by
  have hm:=mul_1024 hw hh
  have hz:IntKind.i64.wrap ((w:Int) * h)=((w * h:Nat):Int):=by rw [← Int.natCast_mul]; exact wrap_id (by omega)
  have e:=build_v1_L0_eq (w:=w) (h:=h) G hw hh hF hc h 0 F [] (by omega) (by omega) (by simp; rw [Nat.mul_comm]; omega)
  unfold raster_build_uint8_v1
  rw [hz,chk_pos (by omega)]
  rw [show (List.replicate (0:Int).toNat (0:UInt8))=[] from rfl,show (0:Int)=((0:Nat):Int) from rfl,e,call_some]
  rfl
theorem build_v2_L2_eq (F:Nat) {w r:Nat} {s0:Int} {s1:Int} {s2:List UInt8} {s3:Int} {s4:Int} (g:Nat→UInt8) (hw:w≤1024) :
    ∀ (m c n:Nat) (acc:List UInt8),c+m=w→m < n→acc.length+m≤4294967296→(∀ c':Nat,c' < w→raster_Grid_uint8_Turn_c2 F (c':Int) (r:Int) s0 s1 s2 s3 s4=some (((g c').toNat:Int),s0,s1,s2,s3,s4)) →
      raster_build_uint8_v2_L2 F w r n acc c s0 s1 s2 s3 s4=some (acc++(List.range' c m).map g,s0,s1,s2,s3,s4):=by
  intro m
  induction m with
  | zero =>
    intro c n acc h hn _ _
    obtain ⟨n,rfl⟩:∃ k,n=k+1:=⟨n - 1,by omega⟩
    obtain rfl:c=w:=by omega
    rw [raster_build_uint8_v2_L2,dec_end,cond_false]
    simp
  | succ m ih =>
    intro c n acc h hn hl hc
    obtain ⟨n,rfl⟩:∃ k,n=k+1:=⟨n - 1,by omega⟩
    rw [raster_build_uint8_v2_L2,dec_lt (show c < w by omega),cond_true,hc c (by omega),call_some,chk_pos (u8_rng _),chk_pos (by simp; omega),wrap_succ (by omega),u8_back]
    refine (ih (c+1) n _ (by omega) (by omega) (by simp; omega) hc).trans ?_
    simp [List.range'_succ]
theorem build_v2_L0_eq {F w h:Nat} {s0:Int} {s1:Int} {s2:List UInt8} {s3:Int} {s4:Int} (G:Nat→Nat→UInt8) (hw:w≤1024) (hh:h≤1024) (hF:1024 < F) (hc:∀ c' r':Nat,c' < w→r' < h→raster_Grid_uint8_Turn_c2 F (c':Int) (r':Int) s0 s1 s2 s3 s4=some (((G c' r').toNat:Int),s0,s1,s2,s3,s4)) :
    ∀ (m r n:Nat) (acc:List UInt8),r+m=h→m < n→acc.length+m * w≤4294967296 →
      raster_build_uint8_v2_L0 F w h n acc r s0 s1 s2 s3 s4=some (acc++(List.range' r m).flatMap (fun r=>(List.range' 0 w).map fun c=>G c r),s0,s1,s2,s3,s4):=by
  intro m
  induction m with
  | zero =>
    intro r n acc h' hn _
    obtain ⟨n,rfl⟩:∃ k,n=k+1:=⟨n - 1,by omega⟩
    obtain rfl:r=h:=by omega
    rw [raster_build_uint8_v2_L0,dec_end,cond_false]
    simp
  | succ m ih =>
    intro r n acc h' hn hl
    obtain ⟨n,rfl⟩:∃ k,n=k+1:=⟨n - 1,by omega⟩
    rw [Nat.add_mul,Nat.one_mul] at hl
    have e:=build_v2_L2_eq F (r:=r) (fun c=>G c r) hw w 0 F acc (by omega) (by omega) (by omega) (fun c' h1=>hc c' r h1 (by omega))
    rw [raster_build_uint8_v2_L0,dec_lt (show r < h by omega),cond_true]
    rw [show (0:Int)=((0:Nat):Int) from rfl,e,call_some,wrap_succ (by omega)]
    refine (ih (r+1) n _ (by omega) (by omega) (by simp; omega)).trans ?_
    simp [List.range'_succ]
theorem build_v2_eq {F w h:Nat} {s0:Int} {s1:Int} {s2:List UInt8} {s3:Int} {s4:Int} (G:Nat→Nat→UInt8) (hw:w≤1024) (hh:h≤1024) (hF:1024 < F) (hc:∀ c' r':Nat,c' < w→r' < h→raster_Grid_uint8_Turn_c2 F (c':Int) (r':Int) s0 s1 s2 s3 s4=some (((G c' r').toNat:Int),s0,s1,s2,s3,s4)) :
    raster_build_uint8_v2 F w h s0 s1 s2 s3 s4=some (⟨w,h,grid w h G⟩,s0,s1,s2,s3,s4):=by
  have hm:=mul_1024 hw hh
  have hz:IntKind.i64.wrap ((w:Int) * h)=((w * h:Nat):Int):=by rw [← Int.natCast_mul]; exact wrap_id (by omega)
  have e:=build_v2_L0_eq (w:=w) (h:=h) G hw hh hF hc h 0 F [] (by omega) (by omega) (by simp; rw [Nat.mul_comm]; omega)
  unfold raster_build_uint8_v2
  rw [hz,chk_pos (by omega)]
  rw [show (List.replicate (0:Int).toNat (0:UInt8))=[] from rfl,show (0:Int)=((0:Nat):Int) from rfl,e,call_some]
  rfl
theorem build_v3_L2_eq (F:Nat) {w r:Nat} {s0:Int} {s1:Int} {s2:List UInt8} {s3:Int} (g:Nat→UInt8) (hw:w≤1024) :
    ∀ (m c n:Nat) (acc:List UInt8),c+m=w→m < n→acc.length+m≤4294967296→(∀ c':Nat,c' < w→raster_Grid_uint8_Turn_c3 F (c':Int) (r:Int) s0 s1 s2 s3=some (((g c').toNat:Int),s0,s1,s2,s3)) →
      raster_build_uint8_v3_L2 F w r n acc c s0 s1 s2 s3=some (acc++(List.range' c m).map g,s0,s1,s2,s3):=by
  intro m
  induction m with
  | zero =>
    intro c n acc h hn _ _
    obtain ⟨n,rfl⟩:∃ k,n=k+1:=⟨n - 1,by omega⟩
    obtain rfl:c=w:=by omega
    rw [raster_build_uint8_v3_L2,dec_end,cond_false]
    simp
  | succ m ih =>
    intro c n acc h hn hl hc
    obtain ⟨n,rfl⟩:∃ k,n=k+1:=⟨n - 1,by omega⟩
    rw [raster_build_uint8_v3_L2,dec_lt (show c < w by omega),cond_true,hc c (by omega),call_some,chk_pos (u8_rng _),chk_pos (by simp; omega),wrap_succ (by omega),u8_back]
    refine (ih (c+1) n _ (by omega) (by omega) (by simp; omega) hc).trans ?_
    simp [List.range'_succ]
theorem build_v3_L0_eq {F w h:Nat} {s0:Int} {s1:Int} {s2:List UInt8} {s3:Int} (G:Nat→Nat→UInt8) (hw:w≤1024) (hh:h≤1024) (hF:1024 < F) (hc:∀ c' r':Nat,c' < w→r' < h→raster_Grid_uint8_Turn_c3 F (c':Int) (r':Int) s0 s1 s2 s3=some (((G c' r').toNat:Int),s0,s1,s2,s3)) :
    ∀ (m r n:Nat) (acc:List UInt8),r+m=h→m < n→acc.length+m * w≤4294967296 →
      raster_build_uint8_v3_L0 F w h n acc r s0 s1 s2 s3=some (acc++(List.range' r m).flatMap (fun r=>(List.range' 0 w).map fun c=>G c r),s0,s1,s2,s3):=by
  intro m
  induction m with
  | zero =>
    intro r n acc h' hn _
    obtain ⟨n,rfl⟩:∃ k,n=k+1:=⟨n - 1,by omega⟩
    obtain rfl:r=h:=by omega
    rw [raster_build_uint8_v3_L0,dec_end,cond_false]
    simp
  | succ m ih =>
    intro r n acc h' hn hl
    obtain ⟨n,rfl⟩:∃ k,n=k+1:=⟨n - 1,by omega⟩
    rw [Nat.add_mul,Nat.one_mul] at hl
    have e:=build_v3_L2_eq F (r:=r) (fun c=>G c r) hw w 0 F acc (by omega) (by omega) (by omega) (fun c' h1=>hc c' r h1 (by omega))
    rw [raster_build_uint8_v3_L0,dec_lt (show r < h by omega),cond_true]
    rw [show (0:Int)=((0:Nat):Int) from rfl,e,call_some,wrap_succ (by omega)]
    refine (ih (r+1) n _ (by omega) (by omega) (by simp; omega)).trans ?_
    simp [List.range'_succ]
theorem build_v3_eq {F w h:Nat} {s0:Int} {s1:Int} {s2:List UInt8} {s3:Int} (G:Nat→Nat→UInt8) (hw:w≤1024) (hh:h≤1024) (hF:1024 < F) (hc:∀ c' r':Nat,c' < w→r' < h→raster_Grid_uint8_Turn_c3 F (c':Int) (r':Int) s0 s1 s2 s3=some (((G c' r').toNat:Int),s0,s1,s2,s3)) :
    raster_build_uint8_v3 F w h s0 s1 s2 s3=some (⟨w,h,grid w h G⟩,s0,s1,s2,s3):=by
  have hm:=mul_1024 hw hh
  have hz:IntKind.i64.wrap ((w:Int) * h)=((w * h:Nat):Int):=by rw [← Int.natCast_mul]; exact wrap_id (by omega)
  have e:=build_v3_L0_eq (w:=w) (h:=h) G hw hh hF hc h 0 F [] (by omega) (by omega) (by simp; rw [Nat.mul_comm]; omega)
  unfold raster_build_uint8_v3
  rw [hz,chk_pos (by omega)]
  rw [show (List.replicate (0:Int).toNat (0:UInt8))=[] from rfl,show (0:Int)=((0:Nat):Int) from rfl,e,call_some]
  rfl
end Go.Vm.BinG
