/-
  BINDERY,PLAIN,part 2: parts of plates,turned; the sides of a sheet.
-/
import Derived.Test.YteidenpelbooeaaBinLi
namespace Go.Vm.BinG
theorem cast_idx {a W b:Nat} (h1:a≤1024) (h2:W≤1024) (h3:b≤1000000):IntKind.i64.wrap (IntKind.i64.wrap ((a:Int) * W)+b)=((a * W+b:Nat):Int):=by
  have:=mul_1024 h1 h2
  rw [← Int.natCast_mul,wrap_id (x:=((a * W:Nat):Int)) (by omega),wrap_id (by omega)]
  omega
/-- A plate turned by quarter turns. -/
def turnP (p:S_Plate) (W H:Nat) (z:Int):S_Plate :=
  if z=1 then ⟨H,W,grid H W fun x y=>p.f2.getD ((H - 1 - x) * W+y) 0⟩
  else if z=2 then ⟨W,H,grid W H fun x y=>p.f2.getD ((H - 1 - y) * W+(W - 1 - x)) 0⟩
  else if z=3 then ⟨H,W,grid H W fun x y=>p.f2.getD (x * W+(W - 1 - y)) 0⟩
  else p
theorem turn_c1_eq (F:Nat) {p:S_Plate} {W H:Nat} (v:VP p W H) {i j:Nat} (hi:i < H) (hj:j < W) :
    raster_Grid_uint8_Turn_c1 F i j p.f0 p.f1 p.f2 p.f1 p.f0=some (((p.f2.getD ((H - 1 - i) * W+j) 0).toNat:Int),p.f0,p.f1,p.f2,p.f1,p.f0):=by
  have h1:=v.bw
  have h2:=v.bh
  have h3:=idx_lt (W:=W) (H:=H) (x:=j) (y:=H - 1 - i) hj (by omega)
  have e0:IntKind.i64.wrap ((H:Int) - 1)=(H:Int) - 1:=wrap_id (by omega)
  have e1:IntKind.i64.wrap ((H:Int) - 1 - i)=((H - 1 - i:Nat):Int):=by rw [wrap_id (by omega)]; omega
  have e2:IntKind.i64.wrap (IntKind.i64.wrap (((H - 1 - i:Nat):Int) * W)+j)=(((H - 1 - i) * W+j:Nat):Int):=cast_idx (by omega) (by omega) (by omega)
  unfold raster_Grid_uint8_Turn_c1
  rw [v.w,v.h,e0,e1,e2,lett_eq,chk_pos ⟨by omega,by rw [v.len]; exact_mod_cast h3⟩,Int.toNat_natCast]
theorem turn_c2_eq (F:Nat) {p:S_Plate} {W H:Nat} (v:VP p W H) {i j:Nat} (hi:i < W) (hj:j < H) :
    raster_Grid_uint8_Turn_c2 F i j p.f0 p.f1 p.f2 p.f1 p.f0=some (((p.f2.getD ((H - 1 - j) * W+(W - 1 - i)) 0).toNat:Int),p.f0,p.f1,p.f2,p.f1,p.f0):=by
  have h1:=v.bw
  have h2:=v.bh
  have h3:=idx_lt (W:=W) (H:=H) (x:=W - 1 - i) (y:=H - 1 - j) (by omega) (by omega)
  have h4:=mul_1024 (a:=H - 1 - j) (b:=W) (by omega) (by omega)
  have e0:IntKind.i64.wrap ((H:Int) - 1)=(H:Int) - 1:=wrap_id (by omega)
  have e1:IntKind.i64.wrap ((H:Int) - 1 - j)=((H - 1 - j:Nat):Int):=by rw [wrap_id (by omega)]; omega
  have e2:IntKind.i64.wrap (IntKind.i64.wrap (((H - 1 - j:Nat):Int) * W)+W)=(((H - 1 - j) * W+W:Nat):Int):=cast_idx (by omega) (by omega) (by omega)
  have e3:IntKind.i64.wrap ((((H - 1 - j) * W+W:Nat):Int) - 1)=(((H - 1 - j) * W+W - 1:Nat):Int):=by rw [wrap_id (by omega)]; omega
  have e4:IntKind.i64.wrap ((((H - 1 - j) * W+W - 1:Nat):Int) - i)=(((H - 1 - j) * W+(W - 1 - i):Nat):Int):=by rw [wrap_id (by omega)]; omega
  unfold raster_Grid_uint8_Turn_c2
  rw [v.w,v.h,e0,e1,e2,lett_eq,e3,e4,chk_pos ⟨by omega,by rw [v.len]; exact_mod_cast h3⟩,Int.toNat_natCast]
theorem turn_c3_eq (F:Nat) {p:S_Plate} {W H:Nat} (v:VP p W H) {i j:Nat} (hi:i < H) (hj:j < W) :
    raster_Grid_uint8_Turn_c3 F i j p.f0 p.f1 p.f2 p.f0=some (((p.f2.getD (i * W+(W - 1 - j)) 0).toNat:Int),p.f0,p.f1,p.f2,p.f0):=by
  have h1:=v.bw
  have h2:=v.bh
  have h3:=idx_lt (W:=W) (H:=H) (x:=W - 1 - j) (y:=i) (by omega) (by omega)
  have h4:=mul_1024 (a:=i) (b:=W) (by omega) (by omega)
  have e2:IntKind.i64.wrap (IntKind.i64.wrap ((i:Int) * W)+W)=((i * W+W:Nat):Int):=cast_idx (by omega) (by omega) (by omega)
  have e3:IntKind.i64.wrap (((i * W+W:Nat):Int) - 1)=((i * W+W - 1:Nat):Int):=by rw [wrap_id (by omega)]; omega
  have e4:IntKind.i64.wrap (((i * W+W - 1:Nat):Int) - j)=((i * W+(W - 1 - j):Nat):Int):=by rw [wrap_id (by omega)]; omega
  unfold raster_Grid_uint8_Turn_c3
  rw [v.w,e2,e3,e4,lett_eq,chk_pos ⟨by omega,by rw [v.len]; exact_mod_cast h3⟩,Int.toNat_natCast]
/-- How often a plate is turned. -/
def quarter (k:Int):Int:=IntKind.i64.wrap ((BitVec.ofInt IntKind.i64.bits k &&& BitVec.ofInt IntKind.i64.bits (3:Int)).toNat:Int)
theorem turn_ok {F:Nat} (hF:1024 < F) {p:S_Plate} {W H:Nat} (v:VP p W H) (k:Int):raster_Grid_uint8_Turn F p k=some (turnP p W H (quarter k),0):=by
  have h1:=v.bw
  have h2:=v.bh
  have e1:=build_v1_eq (F:=F) (w:=H) (h:=W) (s0:=p.f0) (s1:=p.f1) (s2:=p.f2) (s3:=p.f1) (s4:=p.f0) (fun x y=>p.f2.getD ((H - 1 - x) * W+y) 0) (by omega) (by omega) hF (fun i j hi hj=>turn_c1_eq F v hi hj)
  have e2:=build_v2_eq (F:=F) (w:=W) (h:=H) (s0:=p.f0) (s1:=p.f1) (s2:=p.f2) (s3:=p.f1) (s4:=p.f0) (fun x y=>p.f2.getD ((H - 1 - y) * W+(W - 1 - x)) 0) (by omega) (by omega) hF (fun i j hi hj=>turn_c2_eq F v hi hj)
  have e3:=build_v3_eq (F:=F) (w:=H) (h:=W) (s0:=p.f0) (s1:=p.f1) (s2:=p.f2) (s3:=p.f0) (fun x y=>p.f2.getD (x * W+(W - 1 - y)) 0) (by omega) (by omega) hF (fun i j hi hj=>turn_c3_eq F v hi hj)
  rw [← v.h,← v.w] at e1 e3
  rw [← v.w,← v.h] at e2
  unfold raster_Grid_uint8_Turn turnP
  rw [check_eq,v.zero,call_some,bne_self_eq_false,cond_false,lett_eq]
  change (bif quarter k == 1 then _ else _)=_
  by_cases q1:quarter k=1
  · rw [if_pos q1,q1,beq_self_eq_true,cond_true]
    rw [e1,call_some,← v.h,← v.w]
  · rw [if_neg q1,beq_false_of_ne q1,cond_false]
    change (bif quarter k == 2 then _ else _)=_
    by_cases q2:quarter k=2
    · rw [if_pos q2,q2,beq_self_eq_true,cond_true]
      rw [e2,call_some,← v.h,← v.w]
    · rw [if_neg q2,beq_false_of_ne q2,cond_false]
      change (bif quarter k == 3 then _ else _)=_
      by_cases q3:quarter k=3
      · rw [if_pos q3,q3,beq_self_eq_true,cond_true]
        rw [e3,call_some,← v.h,← v.w]
      · rw [if_neg q3,beq_false_of_ne q3,cond_false,clone_eq F _ (by have:=v.le; omega),call_some]
end Go.Vm.BinG
