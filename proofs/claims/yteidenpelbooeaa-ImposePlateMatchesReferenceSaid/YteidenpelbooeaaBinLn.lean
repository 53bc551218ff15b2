/-
  BINDERY,PLAIN,part 6: each pixel of a side of a folded leaf is the pixel of the sheet that lies there.
-/
import Derived.Test.YteidenpelbooeaaBinLm
namespace Go.Vm.BinG
theorem grid_px {w h:Nat} {G:Nat→Nat→UInt8} {x y:Nat} (hx:x < w) (hy:y < h):(grid w h G).getD (y * w+x) 0=G x y:=by
  rw [List.getD_eq_getElem?_getD,grid_get w G x y hx h hy]
  rfl
/-- A pixel of a plate. -/
theorem pix_eq (F:Nat) {p:S_Plate} {W H:Nat} (v:VP p W H) {x y:Nat} (hx:x < W) (hy:y < H):ref3_Pix F p x y=some (((p.f2.getD (y * W+x) 0).toNat:Nat):Int):=by
  have h1:=v.bw
  have h2:=v.bh
  have h3:=idx_lt hx hy
  have e:IntKind.i64.wrap (IntKind.i64.wrap ((y:Int) * W)+x)=((y * W+x:Nat):Int):=cast_idx (by omega) (by omega) (by omega)
  unfold ref3_Pix
  rw [v.w,e,chk_pos ⟨by omega,by rw [v.len]; exact_mod_cast h3⟩,Int.toNat_natCast]
/-- What a page is like. -/
structure PgOk (C R:Nat) (odd:Bool) (P:S_FoldPage) (T col row:Nat):Prop where
  t:P.f3=T
  bt:T≤3
  par:(T % 2 == 1)=odd
  c:P.f1=col
  bc:col < C
  r:P.f2=row
  br:row < R
theorem tmod_par (T:Nat):(((T:Int).tmod 2 == 1))=(T % 2 == 1):=by
  rw [show (T:Int).tmod 2=((T % 2:Nat):Int) from by rw [Int.tmod_eq_emod_of_nonneg (by omega)]; omega]
  rcases Nat.mod_two_eq_zero_or_one T with h | h <;> rw [h] <;> rfl
end Go.Vm.BinG
