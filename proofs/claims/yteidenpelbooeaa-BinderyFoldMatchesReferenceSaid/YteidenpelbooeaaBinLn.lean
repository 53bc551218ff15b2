/-
  BINDERY,PLAIN,part 6: each pixel of a side of a folded leaf is the pixel of the sheet that lies there.
-/
import Derived.Test.YteidenpelbooeaaBinLm
namespace Go.Vm.BinG
theorem grid_px {w h : Nat} {G : Nat → Nat → UInt8} {x y : Nat} (hx : x < w) (hy : y < h) : (grid w h G).getD (y * w + x) 0 = G x y := by
  rw [List.getD_eq_getElem?_getD,grid_get w G x y hx h hy]
  rfl
/-- A place of a leaf,turned back. -/
def rotP (T fw fh u v : Nat) : Nat × Nat := match T with
  | 0 => (u,v)
  | 1 => (fh - 1 - v,u)
  | 2 => (fw - 1 - u,fh - 1 - v)
  | _ => (v,fw - 1 - u)
theorem quarter_eq {T : Nat} (hT : T ≤ 3) : quarter (IntKind.i64.wrap (4 - (T : Int))) = if T = 0 then 0 else ((4 - T : Nat) : Int) := by
  match T,hT with
  | 0,_ => decide
  | 1,_ => decide
  | 2,_ => decide
  | 3,_ => decide
/-- A face of a leaf: its sizes and its pixels. -/
theorem face_px {p : S_Plate} {W x y lw lh fw fh T : Nat} (hT : T ≤ 3) (hl : (lw,lh) = bif T % 2 == 1 then (fh,fw) else (fw,fh)) :
    ∃ r : S_Plate,turnP (cropP p W x y lw lh) lw lh (quarter (IntKind.i64.wrap (4 - (T : Int)))) = r ∧ r.f0 = fw ∧ r.f1 = fh ∧ r.f2.length = fw * fh ∧
      ∀ u v,u < fw → v < fh → r.f2.getD (v * fw + u) 0 = p.f2.getD ((y + (rotP T fw fh u v).2) * W + (x + (rotP T fw fh u v).1)) 0 := by
  rw [quarter_eq hT]
  have hcrop : ∀ i j,i < lw → j < lh → (cropP p W x y lw lh).f2.getD (j * lw + i) 0 = p.f2.getD ((y + j) * W + (x + i)) 0 := fun i j hi hj => grid_px hi hj
  match T,hT with
  | 0,_ =>
    simp only [Nat.zero_mod,Nat.reduceBEq,cond_false,Prod.mk.injEq] at hl
    obtain ⟨rfl,rfl⟩ := hl
    refine ⟨_,rfl,?_⟩
    simp only [if_true,turnP,Int.reduceEq,if_false]
    refine ⟨rfl,rfl,by simp [cropP,grid_length,Nat.mul_comm],fun u v hu hv => hcrop u v hu hv⟩
  | 1,_ =>
    simp only [Nat.reduceMod,beq_self_eq_true,cond_true,Prod.mk.injEq] at hl
    obtain ⟨rfl,rfl⟩ := hl
    refine ⟨_,rfl,?_⟩
    simp only [Nat.reduceEqDiff,if_false,turnP,Int.reduceEq,Nat.reduceSub,Int.cast_ofNat_Int,if_true]
    refine ⟨trivial,trivial,by simp [grid_length,Nat.mul_comm],fun u v hu hv => ?_⟩
    rw [grid_px hu hv,hcrop _ _ (by omega) (by omega)]
    rfl
  | 2,_ =>
    simp only [Nat.reduceMod,Nat.reduceBEq,cond_false,Prod.mk.injEq] at hl
    obtain ⟨rfl,rfl⟩ := hl
    refine ⟨_,rfl,?_⟩
    simp only [Nat.reduceEqDiff,if_false,turnP,Int.reduceEq,Nat.reduceSub,Int.cast_ofNat_Int,if_true]
    refine ⟨trivial,trivial,by simp [grid_length,Nat.mul_comm],fun u v hu hv => ?_⟩
    rw [grid_px hu hv,hcrop _ _ (by omega) (by omega)]
    rfl
  | 3,_ =>
    simp only [Nat.reduceMod,beq_self_eq_true,cond_true,Prod.mk.injEq] at hl
    obtain ⟨rfl,rfl⟩ := hl
    refine ⟨_,rfl,?_⟩
    simp only [Nat.reduceEqDiff,if_false,turnP,Int.reduceEq,Nat.reduceSub,Int.cast_ofNat_Int,if_true]
    refine ⟨trivial,trivial,by simp [grid_length,Nat.mul_comm],fun u v hu hv => ?_⟩
    rw [grid_px hu hv,hcrop _ _ (by omega) (by omega)]
    rfl
theorem rotP_lt {T fw fh lw lh u v : Nat} (hT : T ≤ 3) (hl : (lw,lh) = bif T % 2 == 1 then (fh,fw) else (fw,fh)) (hu : u < fw) (hv : v < fh) : (rotP T fw fh u v).1 < lw ∧ (rotP T fw fh u v).2 < lh := by
  match T,hT with
  | 0,_ => simp at hl; simp only [rotP]; omega
  | 1,_ => simp at hl; simp only [rotP]; omega
  | 2,_ => simp at hl; simp only [rotP]; omega
  | 3,_ => simp at hl; simp only [rotP]; omega
/-- A pixel of a plate. -/
theorem pix_eq (F : Nat) {p : S_Plate} {W H : Nat} (v : VP p W H) {x y : Nat} (hx : x < W) (hy : y < H) : ref3_Pix F p x y = some (((p.f2.getD (y * W + x) 0).toNat : Nat) : Int) := by
  have h1 := v.bw
  have h2 := v.bh
  have h3 := idx_lt hx hy
  have e : IntKind.i64.wrap (IntKind.i64.wrap ((y : Int) * W) + x) = ((y * W + x : Nat) : Int) := cast_idx (by omega) (by omega) (by omega)
  unfold ref3_Pix
  rw [v.w,e,chk_pos ⟨by omega,by rw [v.len]; exact_mod_cast h3⟩,Int.toNat_natCast]
/-- The turning of a place. -/
theorem Leafed_L0_eq (F : Nat) (PG : List S_FoldPage) (k : Nat) {T : Nat} (hT : T ≤ 3) (hf : (PG.getD k pg0).f3 = T) {fw fh u v : Nat} (bw : 1 ≤ fw ∧ fw ≤ 384) (bh : 1 ≤ fh ∧ fh ≤ 384) (hu : u < fw) (hv : v < fh) (n : Nat) :
    ref3_Leafed_L0 F PG k (n + 5) u v fw fh 0 = some (((rotP T fw fh u v).1 : Int),((rotP T fw fh u v).2 : Int)) := by
  have hf' : (PG.getD (k : Int).toNat (S_FoldPage.mk false 0 0 0)).f3 = T := hf
  have step : ∀ (m : Nat) (a b c d j : Nat),j < T → 1 ≤ d → d ≤ 384 → b < d → ref3_Leafed_L0 F PG k (m + 1) a b c d j = ref3_Leafed_L0 F PG k m ((d - 1 - b : Nat) : Int) a d c ((j + 1 : Nat) : Int) := by
    intro m a b c d j hj h1 h2 h3
    have e1 : IntKind.i64.wrap ((d : Int) - 1) = ((d - 1 : Nat) : Int) := wrap_pred (by omega) (by omega)
    have e2 : IntKind.i64.wrap (((d - 1 : Nat) : Int) - b) = ((d - 1 - b : Nat) : Int) := by rw [wrap_id (by omega)]; omega
    rw [ref3_Leafed_L0,hf',dec_lt hj,cond_true,e1,e2,wrap_succ (by omega)]
  have stop : ∀ (m : Nat) (a b c d : Nat),ref3_Leafed_L0 F PG k (m + 1) a b c d T = some ((a : Int),(b : Int)) := by
    intro m a b c d
    rw [ref3_Leafed_L0,hf',dec_end,cond_false]
  have z : (0 : Int) = ((0 : Nat) : Int) := rfl
  rw [z]
  match T,hT with
  | 0,_ => exact stop _ _ _ _ _
  | 1,_ =>
    rw [step _ _ _ _ _ _ (by omega) bh.1 bh.2 hv]
    exact stop _ _ _ _ _
  | 2,_ =>
    rw [step _ _ _ _ _ _ (by omega) bh.1 bh.2 hv,step _ _ _ _ _ _ (by omega) bw.1 bw.2 hu]
    exact stop _ _ _ _ _
  | 3,_ =>
    rw [step _ _ _ _ _ _ (by omega) bh.1 bh.2 hv,step _ _ _ _ _ _ (by omega) bw.1 bw.2 hu,step _ _ _ _ _ _ (by omega) bh.1 bh.2 (by omega)]
    have e : fh - 1 - (fh - 1 - v) = v := by omega
    rw [e]
    exact stop _ _ _ _ _
/-- What a page is like. -/
structure PgOk (C R : Nat) (odd : Bool) (P : S_FoldPage) (T col row : Nat) : Prop where
  t : P.f3 = T
  bt : T ≤ 3
  par : (T % 2 == 1) = odd
  c : P.f1 = col
  bc : col < C
  r : P.f2 = row
  br : row < R
theorem tmod_par (T : Nat) : (((T : Int).tmod 2 == 1)) = (T % 2 == 1) := by
  rw [show (T : Int).tmod 2 = ((T % 2 : Nat) : Int) from by rw [Int.tmod_eq_emod_of_nonneg (by omega)]; omega]
  rcases Nat.mod_two_eq_zero_or_one T with h | h <;> rw [h] <;> rfl
theorem Leafed_eq {F : Nat} (hF : 10 < F) {l : S_ImposeLayout} {C R : Nat} {PG : List S_FoldPage} {odd : Bool} {fw fh lw lh mg : Nat} (Z : Siz F l C R odd fw fh lw lh mg) {i : Nat} {k : Bool} (hk : 2 * i + 1 < PG.length) (hl : PG.length ≤ 1000) {T col row : Nat} (hp : PgOk C R odd (PG.getD (2 * i + k.toNat) pg0) T col row) (hC8 : C ≤ 8) (hR8 : R ≤ 8) {u v : Nat} (hu : u < fw) (hv : v < fh) :
    ref3_Leafed F l PG i k u v = some ((PG.getD (2 * i + k.toNat) pg0).f0,((mg + col * lw + (rotP T fw fh u v).1 : Nat) : Int),((mg + row * lh + (rotP T fw fh u v).2 : Nat) : Int)) := by
  obtain ⟨n,rfl⟩ : ∃ n,F = n + 5 := ⟨F - 5,by omega⟩
  have hlw : lw ≤ 384 ∧ lh ≤ 384 := by
    have h1 := Z.lwh
    have h2 := Z.bfw
    have h3 := Z.bfh
    cases odd <;> simp at h1 <;> omega
  have hlt := rotP_lt (lw := lw) (lh := lh) hp.bt (by rw [hp.par]; exact Z.lwh) hu hv
  have hk2 : k.toNat ≤ 1 := by cases k <;> simp
  have e0 : (bif k then some (IntKind.i64.wrap ((IntKind.i64.wrap (2 * (i : Int))) + 1)) else some (IntKind.i64.wrap (2 * (i : Int)))) = some ((2 * i + k.toNat : Nat) : Int) := by
    rw [wrap_id (x := 2 * (i : Int)) (by omega),wrap_id (x := 2 * (i : Int) + 1) (by omega)]
    cases k <;> simp
  have h1 := hp.bc
  have h2 := hp.br
  have m1 : col * lw ≤ 8 * 384 := Nat.mul_le_mul (by omega) hlw.1
  have m2 : row * lh ≤ 8 * 384 := Nat.mul_le_mul (by omega) hlw.2
  have hb := Z.bmg
  have g1 : (PG.getD (((2 * i + k.toNat : Nat) : Int)).toNat (S_FoldPage.mk false 0 0 0)) = PG.getD (2 * i + k.toNat) pg0 := rfl
  unfold ref3_Leafed
  rw [e0,call_some,chk_pos (by omega),Z.leaf,call_some,Z.efw,Z.efh]
  rw [Leafed_L0_eq (n + 5) PG (2 * i + k.toNat) hp.bt hp.t Z.bfw Z.bfh hu hv n,call_some]
  simp only [lett_eq]
  rw [g1,hp.c,hp.r,Z.emg,← Int.natCast_mul,← Int.natCast_mul,wrap_id (x := ((col * lw : Nat) : Int)) (by omega),wrap_id (x := ((row * lh : Nat) : Int)) (by omega),
    wrap_id (x := (mg : Int) + ((col * lw : Nat) : Int)) (by omega),wrap_id (x := (mg : Int) + ((row * lh : Nat) : Int)) (by omega),wrap_id (by omega),wrap_id (by omega)]
  rfl
/-- A face that is cut out of a sheet. -/
theorem face_ok {F : Nat} (hF : 1024 < F) {a b : S_Plate} {l : S_ImposeLayout} {C R : Nat} {odd : Bool} {fw fh lw lh mg : Nat} {f2 f3 : Int} (Z : Siz F l C R odd fw fh lw lh mg) (va : VP a (C * lw + 2 * mg) (R * lh + 2 * mg)) (vb : VP b (C * lw + 2 * mg) (R * lh + 2 * mg)) {P : S_FoldPage} {T col row : Nat} (hp : PgOk C R odd P T col row) :
    ∃ r : S_Plate,face F ⟨a,b⟩ l ⟨fw,fh,f2,f3⟩ P = some r ∧ VP r fw fh ∧ ∀ u v,u < fw → v < fh → r.f2.getD (v * fw + u) 0 = (bif P.f0 then b else a).f2.getD ((mg + row * lh + (rotP T fw fh u v).2) * (C * lw + 2 * mg) + (mg + col * lw + (rotP T fw fh u v).1)) 0 := by
  have h1 := Z.lwh
  have h2 := Z.bfw
  have h3 := Z.bfh
  have hlw : 1 ≤ lw ∧ 1 ≤ lh := by cases odd <;> simp at h1 <;> omega
  have bw := Z.bw
  have bh := Z.bh
  have c1 := Nat.mul_le_mul_right lw (show col + 1 ≤ C from hp.bc)
  have c2 := Nat.mul_le_mul_right lh (show row + 1 ≤ R from hp.br)
  rw [Nat.add_mul,Nat.one_mul] at c1 c2
  obtain ⟨r,hr,hr0,hr1,hr2,hr3⟩ := face_px (p := bif P.f0 then b else a) (W := C * lw + 2 * mg) (x := mg + col * lw) (y := mg + row * lh) (lw := lw) (lh := lh) (fw := fw) (fh := fh) hp.bt (by rw [hp.par]; exact h1)
  refine ⟨r,?_,⟨hr0,hr1,by omega,by omega,hr2⟩,hr3⟩
  have hodd : (P.f3.tmod 2 == 1) = odd := by rw [hp.t,tmod_par,hp.par]
  have hw : (bif P.f3.tmod 2 == 1 then (fh : Int) else fw) = lw := by
    rw [hodd]
    cases odd <;> simp at h1 <;> simp [h1]
  have hh : (bif P.f3.tmod 2 == 1 then (fw : Int) else fh) = lh := by
    rw [hodd]
    cases odd <;> simp at h1 <;> simp [h1]
  have vp : VP (bif P.f0 then b else a) (C * lw + 2 * mg) (R * lh + 2 * mg) := by
    cases P.f0
    · exact va
    · exact vb
  unfold face
  simp only [hw,hh]
  rw [hp.c,hp.r,hp.t,Z.emg,← Int.natCast_mul,← Int.natCast_mul,wrap_id (x := ((col * lw : Nat) : Int)) (by omega),wrap_id (x := ((row * lh : Nat) : Int)) (by omega),← Int.natCast_add,← Int.natCast_add,
    wrap_id (x := ((mg + col * lw : Nat) : Int)) (by omega),wrap_id (x := ((mg + row * lh : Nat) : Int)) (by omega)]
  rw [← hr]
  exact part_ok hF vp hlw.1 hlw.2 (by omega) (by omega) _
end Go.Vm.BinG
