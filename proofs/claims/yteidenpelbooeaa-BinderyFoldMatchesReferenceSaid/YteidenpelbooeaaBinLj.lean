/-
  BINDERY,PLAIN,part 2: parts of plates,turned; the sides of a sheet.
-/
import Derived.Test.YteidenpelbooeaaBinLi
namespace Go.Vm.BinG
theorem cast_idx {a W b : Nat} (h1 : a ≤ 1024) (h2 : W ≤ 1024) (h3 : b ≤ 1000000) : IntKind.i64.wrap (IntKind.i64.wrap ((a : Int) * W) + b) = ((a * W + b : Nat) : Int) := by
  have := mul_1024 h1 h2
  rw [← Int.natCast_mul,wrap_id (x := ((a * W : Nat) : Int)) (by omega),wrap_id (by omega)]
  omega
theorem crop_c1_eq (F : Nat) {p : S_Plate} {W H : Nat} (v : VP p W H) {x y i j : Nat} (hx : x + i < W) (hy : y + j < H) :
    raster_Grid_uint8_Crop_c1 F i j p.f0 p.f1 p.f2 y x = some (((p.f2.getD ((y + j) * W + (x + i)) 0).toNat : Int),p.f0,p.f1,p.f2,(y : Int),(x : Int)) := by
  have h1 := v.bw
  have h2 := v.bh
  have h3 := idx_lt hx hy
  have h4 := mul_1024 (a := y + j) (b := W) (by omega) (by omega)
  have e1 : IntKind.i64.wrap ((y : Int) + j) = ((y + j : Nat) : Int) := by rw [wrap_id (by omega)]; omega
  have e2 : IntKind.i64.wrap (IntKind.i64.wrap (((y + j : Nat) : Int) * W) + x) = (((y + j) * W + x : Nat) : Int) := cast_idx (by omega) (by omega) (by omega)
  have e3 : IntKind.i64.wrap ((((y + j) * W + x : Nat) : Int) + i) = (((y + j) * W + (x + i) : Nat) : Int) := by rw [wrap_id (by omega)]; omega
  unfold raster_Grid_uint8_Crop_c1
  rw [v.w,e1,e2,e3,lett_eq,chk_pos ⟨by omega,by rw [v.len]; exact_mod_cast h3⟩,Int.toNat_natCast]
/-- A part of a plate. -/
def cropP (p : S_Plate) (W x y w h : Nat) : S_Plate := ⟨w,h,grid w h fun i j => p.f2.getD ((y + j) * W + (x + i)) 0⟩
theorem crop_ok {F : Nat} (hF : 1024 < F) {p : S_Plate} {W H : Nat} (v : VP p W H) {x y w h : Nat} (hw : 1 ≤ w) (hh : 1 ≤ h) (hx : x + w ≤ W) (hy : y + h ≤ H) :
    raster_Grid_uint8_Crop F p x y w h = some (cropP p W x y w h,0) := by
  have h1 := v.bw
  have h2 := v.bh
  have e := build_eq (F := F) (w := w) (h := h) (s0 := p.f0) (s1 := p.f1) (s2 := p.f2) (s3 := y) (s4 := x) (fun i j => p.f2.getD ((y + j) * W + (x + i)) 0) (by omega) (by omega) hF (fun i j hi hj => crop_c1_eq F v (by omega) (by omega))
  have w1 : IntKind.i64.wrap ((W : Int) - w) = (W : Int) - w := wrap_id (by omega)
  have w2 : IntKind.i64.wrap ((H : Int) - h) = (H : Int) - h := wrap_id (by omega)
  unfold raster_Grid_uint8_Crop
  rw [check_eq,v.zero,call_some,bne_self_eq_false,cond_false]
  simp only [lett_eq,or_cond]
  have hb : ((((((((decide ((w : Int) < 1) || decide ((h : Int) < 1)) || decide ((x : Int) < 0)) || decide ((y : Int) < 0)) || decide ((w : Int) > p.f0)) || decide ((h : Int) > p.f1)) || decide ((x : Int) > IntKind.i64.wrap (p.f0 - w))) || decide ((y : Int) > IntKind.i64.wrap (p.f1 - h)))) = false := by
    rw [v.w,v.h,w1,w2,← Bool.not_eq_true]
    simp only [Bool.or_eq_true,decide_eq_true_eq]
    omega
  rw [hb,cond_false,e,call_some]
  rfl
/-- A plate turned by quarter turns. -/
def turnP (p : S_Plate) (W H : Nat) (z : Int) : S_Plate :=
  if z = 1 then ⟨H,W,grid H W fun x y => p.f2.getD ((H - 1 - x) * W + y) 0⟩
  else if z = 2 then ⟨W,H,grid W H fun x y => p.f2.getD ((H - 1 - y) * W + (W - 1 - x)) 0⟩
  else if z = 3 then ⟨H,W,grid H W fun x y => p.f2.getD (x * W + (W - 1 - y)) 0⟩
  else p
theorem turn_c1_eq (F : Nat) {p : S_Plate} {W H : Nat} (v : VP p W H) {i j : Nat} (hi : i < H) (hj : j < W) :
    raster_Grid_uint8_Turn_c1 F i j p.f0 p.f1 p.f2 p.f1 p.f0 = some (((p.f2.getD ((H - 1 - i) * W + j) 0).toNat : Int),p.f0,p.f1,p.f2,p.f1,p.f0) := by
  have h1 := v.bw
  have h2 := v.bh
  have h3 := idx_lt (W := W) (H := H) (x := j) (y := H - 1 - i) hj (by omega)
  have e0 : IntKind.i64.wrap ((H : Int) - 1) = (H : Int) - 1 := wrap_id (by omega)
  have e1 : IntKind.i64.wrap ((H : Int) - 1 - i) = ((H - 1 - i : Nat) : Int) := by rw [wrap_id (by omega)]; omega
  have e2 : IntKind.i64.wrap (IntKind.i64.wrap (((H - 1 - i : Nat) : Int) * W) + j) = (((H - 1 - i) * W + j : Nat) : Int) := cast_idx (by omega) (by omega) (by omega)
  unfold raster_Grid_uint8_Turn_c1
  rw [v.w,v.h,e0,e1,e2,lett_eq,chk_pos ⟨by omega,by rw [v.len]; exact_mod_cast h3⟩,Int.toNat_natCast]
theorem turn_c2_eq (F : Nat) {p : S_Plate} {W H : Nat} (v : VP p W H) {i j : Nat} (hi : i < W) (hj : j < H) :
    raster_Grid_uint8_Turn_c2 F i j p.f0 p.f1 p.f2 p.f1 p.f0 = some (((p.f2.getD ((H - 1 - j) * W + (W - 1 - i)) 0).toNat : Int),p.f0,p.f1,p.f2,p.f1,p.f0) := by
  have h1 := v.bw
  have h2 := v.bh
  have h3 := idx_lt (W := W) (H := H) (x := W - 1 - i) (y := H - 1 - j) (by omega) (by omega)
  have h4 := mul_1024 (a := H - 1 - j) (b := W) (by omega) (by omega)
  have e0 : IntKind.i64.wrap ((H : Int) - 1) = (H : Int) - 1 := wrap_id (by omega)
  have e1 : IntKind.i64.wrap ((H : Int) - 1 - j) = ((H - 1 - j : Nat) : Int) := by rw [wrap_id (by omega)]; omega
  have e2 : IntKind.i64.wrap (IntKind.i64.wrap (((H - 1 - j : Nat) : Int) * W) + W) = (((H - 1 - j) * W + W : Nat) : Int) := cast_idx (by omega) (by omega) (by omega)
  have e3 : IntKind.i64.wrap ((((H - 1 - j) * W + W : Nat) : Int) - 1) = (((H - 1 - j) * W + W - 1 : Nat) : Int) := by rw [wrap_id (by omega)]; omega
  have e4 : IntKind.i64.wrap ((((H - 1 - j) * W + W - 1 : Nat) : Int) - i) = (((H - 1 - j) * W + (W - 1 - i) : Nat) : Int) := by rw [wrap_id (by omega)]; omega
  unfold raster_Grid_uint8_Turn_c2
  rw [v.w,v.h,e0,e1,e2,lett_eq,e3,e4,chk_pos ⟨by omega,by rw [v.len]; exact_mod_cast h3⟩,Int.toNat_natCast]
theorem turn_c3_eq (F : Nat) {p : S_Plate} {W H : Nat} (v : VP p W H) {i j : Nat} (hi : i < H) (hj : j < W) :
    raster_Grid_uint8_Turn_c3 F i j p.f0 p.f1 p.f2 p.f0 = some (((p.f2.getD (i * W + (W - 1 - j)) 0).toNat : Int),p.f0,p.f1,p.f2,p.f0) := by
  have h1 := v.bw
  have h2 := v.bh
  have h3 := idx_lt (W := W) (H := H) (x := W - 1 - j) (y := i) (by omega) (by omega)
  have h4 := mul_1024 (a := i) (b := W) (by omega) (by omega)
  have e2 : IntKind.i64.wrap (IntKind.i64.wrap ((i : Int) * W) + W) = ((i * W + W : Nat) : Int) := cast_idx (by omega) (by omega) (by omega)
  have e3 : IntKind.i64.wrap (((i * W + W : Nat) : Int) - 1) = ((i * W + W - 1 : Nat) : Int) := by rw [wrap_id (by omega)]; omega
  have e4 : IntKind.i64.wrap (((i * W + W - 1 : Nat) : Int) - j) = ((i * W + (W - 1 - j) : Nat) : Int) := by rw [wrap_id (by omega)]; omega
  unfold raster_Grid_uint8_Turn_c3
  rw [v.w,e2,e3,e4,lett_eq,chk_pos ⟨by omega,by rw [v.len]; exact_mod_cast h3⟩,Int.toNat_natCast]
/-- How often a plate is turned. -/
def quarter (k : Int) : Int := IntKind.i64.wrap ((BitVec.ofInt IntKind.i64.bits k &&& BitVec.ofInt IntKind.i64.bits (3 : Int)).toNat : Int)
theorem turn_ok {F : Nat} (hF : 1024 < F) {p : S_Plate} {W H : Nat} (v : VP p W H) (k : Int) : raster_Grid_uint8_Turn F p k = some (turnP p W H (quarter k),0) := by
  have h1 := v.bw
  have h2 := v.bh
  have e1 := build_v1_eq (F := F) (w := H) (h := W) (s0 := p.f0) (s1 := p.f1) (s2 := p.f2) (s3 := p.f1) (s4 := p.f0) (fun x y => p.f2.getD ((H - 1 - x) * W + y) 0) (by omega) (by omega) hF (fun i j hi hj => turn_c1_eq F v hi hj)
  have e2 := build_v2_eq (F := F) (w := W) (h := H) (s0 := p.f0) (s1 := p.f1) (s2 := p.f2) (s3 := p.f1) (s4 := p.f0) (fun x y => p.f2.getD ((H - 1 - y) * W + (W - 1 - x)) 0) (by omega) (by omega) hF (fun i j hi hj => turn_c2_eq F v hi hj)
  have e3 := build_v3_eq (F := F) (w := H) (h := W) (s0 := p.f0) (s1 := p.f1) (s2 := p.f2) (s3 := p.f0) (fun x y => p.f2.getD (x * W + (W - 1 - y)) 0) (by omega) (by omega) hF (fun i j hi hj => turn_c3_eq F v hi hj)
  rw [← v.h,← v.w] at e1 e3
  rw [← v.w,← v.h] at e2
  unfold raster_Grid_uint8_Turn turnP
  rw [check_eq,v.zero,call_some,bne_self_eq_false,cond_false,lett_eq]
  change (bif quarter k == 1 then _ else _) = _
  by_cases q1 : quarter k = 1
  · rw [if_pos q1,q1,beq_self_eq_true,cond_true]
    rw [e1,call_some,← v.h,← v.w]
  · rw [if_neg q1,beq_false_of_ne q1,cond_false]
    change (bif quarter k == 2 then _ else _) = _
    by_cases q2 : quarter k = 2
    · rw [if_pos q2,q2,beq_self_eq_true,cond_true]
      rw [e2,call_some,← v.h,← v.w]
    · rw [if_neg q2,beq_false_of_ne q2,cond_false]
      change (bif quarter k == 3 then _ else _) = _
      by_cases q3 : quarter k = 3
      · rw [if_pos q3,q3,beq_self_eq_true,cond_true]
        rw [e3,call_some,← v.h,← v.w]
      · rw [if_neg q3,beq_false_of_ne q3,cond_false,clone_eq F _ (by have := v.le; omega),call_some]
theorem turnP_vp {p : S_Plate} {W H : Nat} (v : VP p W H) (z : Int) : ∃ W' H',VP (turnP p W H z) W' H' := by
  unfold turnP
  split
  · exact ⟨_,_,vp_grid v.bh v.bw _⟩
  · split
    · exact ⟨_,_,vp_grid v.bw v.bh _⟩
    · split
      · exact ⟨_,_,vp_grid v.bh v.bw _⟩
      · exact ⟨_,_,v⟩
theorem part_ok {F : Nat} (hF : 1024 < F) {p : S_Plate} {W H : Nat} (v : VP p W H) {x y w h : Nat} (hw : 1 ≤ w) (hh : 1 ≤ h) (hx : x + w ≤ W) (hy : y + h ≤ H) (k : Int) :
    bindery_part F p x y w h k = some (turnP (cropP p W x y w h) w h (quarter k)) := by
  have h1 := v.bw
  have h2 := v.bh
  have vc : VP (cropP p W x y w h) w h := vp_grid (by omega) (by omega) _
  obtain ⟨W',H',v'⟩ := turnP_vp vc (quarter k)
  unfold bindery_part
  rw [of_eq F p (by have := v.le; omega),call_some,crop_ok hF v hw hh hx hy,call_some,turn_ok hF vc k,call_some,plate_eq F _ (Nat.le_trans v'.le (by omega)),call_some]
/-- The error of two sides. -/
def sidE (a b : S_Plate) : Int := if chkE a ≠ 0 then chkE a else if chkE b ≠ 0 then chkE b else if a.f0 ≠ b.f0 ∨ a.f1 ≠ b.f1 then 19 else 0
theorem sides_eq {F : Nat} (hF : 10 < F) (a b : S_Plate) (ha : a.f2.length ≤ 4294967296) (hb : b.f2.length ≤ 4294967296) : bindery_sides F a b = some (sidE a b) := by
  obtain ⟨n,rfl⟩ : ∃ n,F = n + 3 := ⟨F - 3,by omega⟩
  have w0 : IntKind.i64.wrap (0 + 1) = 1 := by decide
  have w1 : IntKind.i64.wrap (1 + 1) = 2 := by decide
  have l2 : bindery_sides_L0 (n + 3) a b (n + 1) 2 = some (.go ()) := by
    rw [bindery_sides_L0,show decide ((2 : Int) < 2) = false from rfl,cond_false]
  have l1 : bindery_sides_L0 (n + 3) a b (n + 2) 1 = some (if chkE b ≠ 0 then .esc (chkE b) else .go ()) := by
    rw [bindery_sides_L0,show decide ((1 : Int) < 2) = true from rfl,cond_true,chk_pos (by omega)]
    change call (raster_Of (n + 3) b) _ = _
    rw [of_eq _ b hb,call_some,check_eq,call_some,w1,l2]
    by_cases h : chkE b = 0
    · rw [if_neg (by omega),h,bne_self_eq_false,cond_false]
    · have hne : (chkE b != 0) = true := by simpa using h
      rw [if_pos h,hne,cond_true]
  have l0 : bindery_sides_L0 (n + 3) a b (n + 3) 0 = some (if chkE a ≠ 0 then .esc (chkE a) else if chkE b ≠ 0 then .esc (chkE b) else .go ()) := by
    rw [bindery_sides_L0,show decide ((0 : Int) < 2) = true from rfl,cond_true,chk_pos (by omega)]
    change call (raster_Of (n + 3) a) _ = _
    rw [of_eq _ a ha,call_some,check_eq,call_some,w0,l1]
    by_cases h : chkE a = 0
    · rw [if_neg (by omega : ¬ chkE a ≠ 0),h,bne_self_eq_false,cond_false]
    · have hne : (chkE a != 0) = true := by simpa using h
      rw [if_pos h,hne,cond_true]
  unfold bindery_sides sidE
  rw [l0]
  by_cases h1 : chkE a ≠ 0
  · rw [if_pos h1,if_pos h1]; rfl
  · rw [if_neg h1,if_neg h1]
    by_cases h2 : chkE b ≠ 0
    · rw [if_pos h2,if_pos h2]; rfl
    · rw [if_neg h2,if_neg h2,callE_go,or_cond]
      by_cases h3 : a.f0 ≠ b.f0 ∨ a.f1 ≠ b.f1
      · have : ((a.f0 != b.f0) || (a.f1 != b.f1)) = true := by simpa using h3
        rw [if_pos h3,this,cond_true]
      · have : ((a.f0 != b.f0) || (a.f1 != b.f1)) = false := by
          rw [← Bool.not_eq_true]
          simpa using h3
        rw [if_neg h3,this,cond_false]
end Go.Vm.BinG
