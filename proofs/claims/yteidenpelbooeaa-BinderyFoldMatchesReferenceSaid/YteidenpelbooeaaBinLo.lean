/-
  BINDERY,PLAIN,part 7: the law of folded leaves.
-/
import Derived.Test.YteidenpelbooeaaBinLn
namespace Go.Vm.BinG
theorem pg_ok {C R : Nat} {L : List Lf} {I : List Nat} {turn : Int} (hC : 1 ≤ C ∧ C ≤ 8) (ht : 0 ≤ turn ∧ turn ≤ 3) (hI : I.Perm (List.range (R * C))) {P : S_FoldPage} (hP : P ∈ (I.map (leafOf C L)).flatMap (pgs C turn)) :
    ∃ T col row,PgOk C R (turn.tmod 2 == 1) P T col row := by
  obtain ⟨x,hx,hP⟩ := List.mem_flatMap.1 hP
  obtain ⟨i,hi,rfl⟩ := List.mem_map.1 hx
  have hi2 : i < R * C := by simpa using hI.mem_iff.1 hi
  have hm : i % C < C := Nat.mod_lt _ (by omega)
  have hd : i / C < R := by rw [Nat.div_lt_iff_lt_mul (by omega)]; exact hi2
  have key : ∀ back half,∃ T col row,PgOk C R (turn.tmod 2 == 1) (pg C turn (leafOf C L i) back half) T col row := by
    intro back half
    obtain ⟨t,rfl⟩ : ∃ t : Nat,turn = t := ⟨turn.toNat,by omega⟩
    have ht4 : t = 0 ∨ t = 1 ∨ t = 2 ∨ t = 3 := by omega
    refine ⟨bif half then (t + 2) % 4 else t,bif back then C - 1 - i % C else i % C,i / C,?_,?_,?_,?_,?_,rfl,hd⟩
    · rcases ht4 with rfl | rfl | rfl | rfl <;> cases half <;> rfl
    · rcases ht4 with rfl | rfl | rfl | rfl <;> cases half <;> decide
    · rw [tmod_par]
      rcases ht4 with rfl | rfl | rfl | rfl <;> cases half <;> rfl
    · cases back
      · rfl
      · simp only [pg,leafOf,cond_true]
        omega
    · cases back
      · exact hm
      · simp only [cond_true]; omega
  simp only [pgs,List.mem_cons,List.not_mem_nil,or_false] at hP
  rcases hP with rfl | rfl
  · exact key _ _
  · exact key _ _
def lfz : S_BinderyLeaf := S_BinderyLeaf.mk (S_Plate.mk 0 0 []) (S_Plate.mk 0 0 [])
/-- A side of a leaf. -/
def plt (ls : List S_BinderyLeaf) (i : Nat) (k : Bool) : S_Plate := [(ls.getD i lfz).f0,(ls.getD i lfz).f1].getD k.toNat pl0
theorem knat (k : Bool) : (((k.toNat : Nat) : Int) == 1) = k := by cases k <;> rfl
theorem L6_ok {F : Nat} {l : S_ImposeLayout} {a b : S_Plate} {ls : List S_BinderyLeaf} {PG : List S_FoldPage} {i v fw : Nat} {k : Bool} (hfw : fw ≤ 1024)
    (hc : ∀ u,u < fw → ∃ (q : Bool × Int × Int) (c1 c2 : Int),ref3_Leafed F l PG i k (u : Int) v = some q ∧ ref3_Pix F a q.2.1 q.2.2 = some c1 ∧ ref3_Pix F b q.2.1 q.2.2 = some c2 ∧ ref3_Pix F (plt ls i k) u v = some (bif q.1 then c2 else c1)) :
    ∀ (m u n : Nat),u + m = fw → m < n → law3_BinderyFoldMatchesReference_L6 F l a b (ls,0) (PG,0) i ((k.toNat : Nat) : Int) v fw n u = some (.go ()) := by
  intro m
  induction m with
  | zero =>
    intro u n h hn
    obtain ⟨n,rfl⟩ : ∃ j,n = j + 1 := ⟨n - 1,by omega⟩
    obtain rfl : u = fw := by omega
    rw [law3_BinderyFoldMatchesReference_L6,dec_end,cond_false]
  | succ m ih =>
    intro u n h hn
    obtain ⟨n,rfl⟩ : ∃ j,n = j + 1 := ⟨n - 1,by omega⟩
    obtain ⟨q,c1,c2,h1,h2,h3,h4⟩ := hc u (by omega)
    rw [law3_BinderyFoldMatchesReference_L6,dec_lt (show u < fw by omega),cond_true,knat]
    simp only
    rw [h1,call_some,h2,call_some]
    have h5 : (bif q.1 then call (ref3_Pix F b q.2.1 q.2.2) fun y8 => some y8 else some c1) = some (bif q.1 then c2 else c1) := by
      rw [h3]
      cases q.1 <;> rfl
    rw [h5,call_some]
    change call (ref3_Pix F (plt ls i k) u v) _ = _
    rw [h4,call_some,bne_self_eq_false,cond_false,wrap_succ (by omega)]
    exact ih (u + 1) n (by omega) (by omega)
theorem L4_ok {F : Nat} {l : S_ImposeLayout} {a b : S_Plate} {ls : List S_BinderyLeaf} {PG : List S_FoldPage} {i fw fh : Nat} {k : Bool} (hF : 1024 < F) (hfw : fw ≤ 1024) (hfh : fh ≤ 1024) (h0 : (plt ls i k).f0 = fw)
    (hc : ∀ u v,u < fw → v < fh → ∃ (q : Bool × Int × Int) (c1 c2 : Int),ref3_Leafed F l PG i k (u : Int) (v : Int) = some q ∧ ref3_Pix F a q.2.1 q.2.2 = some c1 ∧ ref3_Pix F b q.2.1 q.2.2 = some c2 ∧ ref3_Pix F (plt ls i k) u v = some (bif q.1 then c2 else c1)) :
    ∀ (m v n : Nat),v + m = fh → m < n → law3_BinderyFoldMatchesReference_L4 F l a b (ls,0) (PG,0) i ((k.toNat : Nat) : Int) fh n v = some (.go ()) := by
  intro m
  induction m with
  | zero =>
    intro v n h hn
    obtain ⟨n,rfl⟩ : ∃ j,n = j + 1 := ⟨n - 1,by omega⟩
    obtain rfl : v = fh := by omega
    rw [law3_BinderyFoldMatchesReference_L4,dec_end,cond_false]
  | succ m ih =>
    intro v n h hn
    obtain ⟨n,rfl⟩ : ∃ j,n = j + 1 := ⟨n - 1,by omega⟩
    rw [law3_BinderyFoldMatchesReference_L4,dec_lt (show v < fh by omega),cond_true,lett_eq]
    change callE (law3_BinderyFoldMatchesReference_L6 F l a b (ls,0) (PG,0) i ((k.toNat : Nat) : Int) v (plt ls i k).f0 F ((0 : Nat) : Int)) _ _ = _
    rw [h0,L6_ok hfw (fun u hu => hc u v hu (by omega)) fw 0 F (by omega) (by omega),callE_go,wrap_succ (by omega)]
    exact ih (v + 1) n (by omega) (by omega)
theorem L2_ok {F : Nat} {l : S_ImposeLayout} {a b : S_Plate} {ls : List S_BinderyLeaf} {PG : List S_FoldPage} {i fw fh : Nat} (hF : 1024 < F) (e1 : IntKind.i64.wrap (IntKind.i64.wrap (l.f1 + l.f4) + l.f5) = fw) (e2 : IntKind.i64.wrap (l.f2 + IntKind.i64.wrap (2 * l.f3)) = fh) (hv : ∀ k,VP (plt ls i k) fw fh)
    (hc : ∀ k u v,u < fw → v < fh → ∃ (q : Bool × Int × Int) (c1 c2 : Int),ref3_Leafed F l PG i k (u : Int) (v : Int) = some q ∧ ref3_Pix F a q.2.1 q.2.2 = some c1 ∧ ref3_Pix F b q.2.1 q.2.2 = some c2 ∧ ref3_Pix F (plt ls i k) u v = some (bif q.1 then c2 else c1)) (n : Nat) :
    law3_BinderyFoldMatchesReference_L2 F l a b (ls,0) (PG,0) i 2 (n + 3) 0 = some (.go ()) := by
  have stop : law3_BinderyFoldMatchesReference_L2 F l a b (ls,0) (PG,0) i 2 (n + 1) 2 = some (.go ()) := by
    rw [law3_BinderyFoldMatchesReference_L2,show decide ((2 : Int) < 2) = false from rfl,cond_false]
  have step : ∀ (k : Bool) (m : Nat) (j : Int),IntKind.i64.wrap (((k.toNat : Nat) : Int) + 1) = j → law3_BinderyFoldMatchesReference_L2 F l a b (ls,0) (PG,0) i 2 (m + 1) ((k.toNat : Nat) : Int) = law3_BinderyFoldMatchesReference_L2 F l a b (ls,0) (PG,0) i 2 m j := by
    intro k m j hj
    have v := hv k
    have hk : k.toNat ≤ 1 := by cases k <;> simp
    have hw := v.bw
    have hh := v.bh
    rw [law3_BinderyFoldMatchesReference_L2,show decide (((k.toNat : Nat) : Int) < 2) = true from decide_eq_true (by omega),cond_true,chk_pos ⟨by omega,by simp only [List.length_cons,List.length_nil]; omega⟩,lett_eq,lett_eq,hj]
    change (lett (bif (plt ls i k).f0 != _ then true else (plt ls i k).f1 != _) fun z6 => call (bif ((z6 == false) && true) then ref3_PlateError F (plt ls i k) else some 0) fun y10 => bif (bif z6 then true else y10 != (0 : Int)) then some (.esc false) else lett (plt ls i k).f1 fun z2 =>
      callE (law3_BinderyFoldMatchesReference_L4 F l a b (ls,0) (PG,0) i ((k.toNat : Nat) : Int) z2 F ((0 : Nat) : Int)) (fun e => some (.esc e)) fun _ => law3_BinderyFoldMatchesReference_L2 F l a b (ls,0) (PG,0) i 2 m j) = _
    rw [e1,e2,v.w,v.h,bne_self_eq_false,bne_self_eq_false,cond_false,lett_eq]
    simp only [beq_self_eq_true,Bool.and_true,cond_true,cond_false]
    rw [plateError_eq,v.zero,call_some,bne_self_eq_false,cond_false,lett_eq,L4_ok hF (by omega) (by omega) v.w (fun u w hu hw => hc k u w hu hw) fh 0 F (by omega) (by omega),callE_go]
  have s0 := step false (n + 2) 1 (by decide)
  have s1 := step true (n + 1) 2 (by decide)
  exact (s0.trans s1).trans stop
theorem L0_ok {F : Nat} {l : S_ImposeLayout} {a b : S_Plate} {ls : List S_BinderyLeaf} {PG : List S_FoldPage} (hF : 1024 < F) (hl : ls.length ≤ 1000) (h2 : ∀ i n,i < ls.length → law3_BinderyFoldMatchesReference_L2 F l a b (ls,0) (PG,0) (i : Nat) 2 (n + 3) 0 = some (.go ())) :
    ∀ (m i n : Nat),i + m = ls.length → m < n → law3_BinderyFoldMatchesReference_L0 F l a b (ls,0) (PG,0) n i = some (.go ()) := by
  intro m
  induction m with
  | zero =>
    intro i n h hn
    obtain ⟨n,rfl⟩ : ∃ j,n = j + 1 := ⟨n - 1,by omega⟩
    rw [law3_BinderyFoldMatchesReference_L0,show decide ((i : Int) < (((ls,(0 : Int)).1.length : Nat) : Int)) = false from decide_eq_false (by simp only; omega),cond_false]
  | succ m ih =>
    intro i n h hn
    obtain ⟨n,rfl⟩ : ∃ j,n = j + 1 := ⟨n - 1,by omega⟩
    obtain ⟨f,hf⟩ : ∃ f,F = f + 3 := ⟨F - 3,by omega⟩
    rw [law3_BinderyFoldMatchesReference_L0,dec_lt (show i < ls.length by omega),cond_true,chk_in (show i < ls.length by omega),lett_eq]
    change callE (law3_BinderyFoldMatchesReference_L2 F l a b (ls,0) (PG,0) i 2 F 0) _ _ = _
    have := h2 i f (by omega)
    rw [← hf] at this
    rw [this,callE_go,wrap_succ (by omega)]
    exact ih (i + 1) n (by omega) (by omega)
theorem fold_law (n : Nat) (l0 : S_ImposeLayout) : law3_BinderyFoldMatchesReference (n + 2000000) l0 = some true := by
  obtain ⟨F,hFe⟩ : ∃ F,F = n + 2000000 := ⟨_,rfl⟩
  have hF : 2000000 ≤ F := by omega
  obtain ⟨l,ht⟩ := tiny_ex F l0
  have hfact : law3_imposeFact F = some true := by
    rw [hFe,show n + 2000000 = (n + 1999000) + 1000 from rfl]
    exact law3_imposeFact_eq _
  rw [← hFe]
  unfold law3_BinderyFoldMatchesReference
  rw [hfact,call_some,Bool.not_true,cond_false,ht,call_some]
  obtain ⟨e,h1,h2,h3⟩ := check_main (F := F) (by omega) l
  rw [h2,call_some]
  by_cases he : e = 0
  case neg => rw [bne_of_ne he,cond_true]
  subst he
  rw [bne_self_eq_false,cond_false]
  obtain ⟨C,R,PG,hC,hR,hC8,hR8,hRC,hPG,h8,h9,L,I,turn,hPGe,hI,ht0,ht3⟩ := h3 rfl
  have hpos : 0 < PG.length := by
    have := Nat.mul_le_mul hR8.1 hC8.1
    omega
  obtain ⟨W,H,hd,fo,sp,mg,z,Ly⟩ := lay_of (C := C) (R := R) h9 h2
  obtain ⟨fw,fh,lw,lh,hfw,hfh,Z0⟩ := siz_of Ly hC hR hC8 hR8 hpos h8 h9
  have hpage : ∀ k,k < PG.length → ∃ T col row,PgOk C R (turn.tmod 2 == 1) (PG.getD k pg0) T col row := by
    intro k hk
    refine pg_ok (L := L) (I := I) hC8 ⟨ht0,ht3⟩ hI ?_
    rw [← hPGe,List.getD_eq_getElem?_getD,List.getElem?_eq_getElem hk]
    exact List.getElem_mem _
  have hodd : ((PG.getD 0 pg0).f3.tmod 2 == 1) = (turn.tmod 2 == 1) := by
    obtain ⟨T,col,row,hp⟩ := hpage 0 hpos
    rw [hp.t,tmod_par,hp.par]
  rw [hodd] at Z0
  have hlw : 1 ≤ lw ∧ 1 ≤ lh := by
    have g1 := Z0.lwh
    have g2 := Z0.bfw
    have g3 := Z0.bfh
    cases hb : (turn.tmod 2 == 1) <;> rw [hb] at g1 <;> simp at g1 <;> omega
  have bw := Z0.bw
  have bh := Z0.bh
  have c1 := Nat.mul_le_mul hC8.1 hlw.1
  have c2 := Nat.mul_le_mul hR8.1 hlw.2
  rw [Z0.single,call_some]
  obtain ⟨a,ha,va⟩ := dots_ok (F := F) (by omega) (w := C * lw + 2 * mg) (h := R * lh + 2 * mg) (by omega) (by omega) 1
  obtain ⟨b,hb,vb⟩ := dots_ok (F := F) (by omega) (w := C * lw + 2 * mg) (h := R * lh + 2 * mg) (by omega) (by omega) 100
  simp only
  rw [ha,call_some,hb,call_some]
  -- the leaves
  have hface : ∀ k,k < PG.length → ∃ r,face F ⟨a,b⟩ l ⟨fw,fh,((C * lw + 2 * mg : Nat) : Int),((R * lh + 2 * mg : Nat) : Int)⟩ (PG.getD k pg0) = some r := fun k hk =>
    let ⟨_,_,_,hp⟩ := hpage k hk
    let ⟨r,h,_⟩ := face_ok (F := F) (by omega) Z0 va vb hp
    ⟨r,h⟩
  let g : Nat → S_Plate := fun k => (face F ⟨a,b⟩ l ⟨fw,fh,((C * lw + 2 * mg : Nat) : Int),((R * lh + 2 * mg : Nat) : Int)⟩ (PG.getD k pg0)).getD pl0
  have hg : ∀ k,k < PG.length → face F ⟨a,b⟩ l ⟨fw,fh,((C * lw + 2 * mg : Nat) : Int),((R * lh + 2 * mg : Nat) : Int)⟩ (PG.getD k pg0) = some (g k) := by
    intro k hk
    obtain ⟨r,hr⟩ := hface k hk
    show _ = some ((face F ⟨a,b⟩ l ⟨fw,fh,((C * lw + 2 * mg : Nat) : Int),((R * lh + 2 * mg : Nat) : Int)⟩ (PG.getD k pg0)).getD pl0)
    rw [hr]
    rfl
  have hall := L0_all (F := F) (by omega) ⟨a,b⟩ l _ PG 0 (by omega) g hg (R * C) 0 F [] (by omega) (by omega) (by simp; omega)
  rw [List.nil_append,Int.natCast_zero] at hall
  obtain ⟨ls,hls⟩ : ∃ ls,ls = (List.range (R * C)).map fun j => (⟨g (0 + 2 * j),g (0 + 2 * j + 1)⟩ : S_BinderyLeaf) := ⟨_,rfl⟩
  rw [← hls] at hall
  have hlen : ls.length = R * C := by rw [hls]; simp
  have hgetl : ∀ i,i < R * C → ls.getD i lfz = ⟨g (2 * i),g (2 * i + 1)⟩ := by
    intro i hi
    rw [hls,List.getD_eq_getElem?_getD]
    simp [hi]
  have hsid : sidE a b = 0 := by
    unfold sidE
    rw [va.zero,vb.zero,va.w,va.h,vb.w,vb.h]
    simp
  have hfold : bindery_Fold F ⟨a,b⟩ l = some (ls,0) := by
    unfold bindery_Fold
    rw [h1,call_some,bne_self_eq_false,cond_false,sides_eq (by omega) a b (by have := va.le; omega) (by have := vb.le; omega),call_some,hsid,bne_self_eq_false,cond_false,Z0.frame,call_some]
    simp only
    rw [va.w,va.h,bne_self_eq_false,bne_self_eq_false,cond_false,cond_false,h8,call_some,hall,call_some]
  rw [hfold,call_some,h9,call_some,lett_eq]
  have hz7 : (bif ((ls,(0 : Int)).2 != 0) then true else (IntKind.i64.wrap (2 * (((ls,(0 : Int)).1.length : Nat) : Int)) != (((PG,(0 : Int)).1.length : Nat) : Int))) = false := by
    simp only [bne_self_eq_false,cond_false]
    rw [hlen,hPG,wrap_id (by omega)]
    simp
  rw [hz7,cond_false]
  have hplt : ∀ i k,i < R * C → plt ls i k = g (2 * i + k.toNat) := by
    intro i k hi
    unfold plt
    rw [hgetl i hi]
    cases k <;> rfl
  have hcell : ∀ i k,i < R * C → ∃ T col row,PgOk C R (turn.tmod 2 == 1) (PG.getD (2 * i + k.toNat) pg0) T col row ∧ VP (plt ls i k) fw fh ∧ ∀ u v,u < fw → v < fh → (plt ls i k).f2.getD (v * fw + u) 0 = (bif (PG.getD (2 * i + k.toNat) pg0).f0 then b else a).f2.getD ((mg + row * lh + (rotP T fw fh u v).2) * (C * lw + 2 * mg) + (mg + col * lw + (rotP T fw fh u v).1)) 0 := by
    intro i k hi
    have hk : k.toNat ≤ 1 := by cases k <;> simp
    obtain ⟨T,col,row,hp⟩ := hpage (2 * i + k.toNat) (by omega)
    obtain ⟨r,hr,vr,hpx⟩ := face_ok (F := F) (f2 := ((C * lw + 2 * mg : Nat) : Int)) (f3 := ((R * lh + 2 * mg : Nat) : Int)) (by omega) Z0 va vb hp
    have hrg : r = plt ls i k := by
      rw [hplt i k hi]
      have := hg (2 * i + k.toNat) (by omega)
      rw [hr] at this
      exact Option.some.inj this
    subst hrg
    exact ⟨T,col,row,hp,vr,hpx⟩
  have hL2 : ∀ i n,i < ls.length → law3_BinderyFoldMatchesReference_L2 F l a b (ls,0) (PG,0) (i : Nat) 2 (n + 3) 0 = some (.go ()) := by
    intro i n hi
    rw [hlen] at hi
    refine L2_ok (by omega) Z0.efw Z0.efh (fun k => ?_) (fun k u v hu hv => ?_) n
    · obtain ⟨_,_,_,_,vr,_⟩ := hcell i k hi
      exact vr
    · obtain ⟨T,col,row,hp,vr,hpx⟩ := hcell i k hi
      have hlt := rotP_lt (lw := lw) (lh := lh) hp.bt (by rw [hp.par]; exact Z0.lwh) hu hv
      have d1 := Nat.mul_le_mul_right lw (show col + 1 ≤ C from hp.bc)
      have d2 := Nat.mul_le_mul_right lh (show row + 1 ≤ R from hp.br)
      rw [Nat.add_mul,Nat.one_mul] at d1 d2
      refine ⟨_,_,_,Leafed_eq (by omega) Z0 (by omega) (by omega) hp (by omega) (by omega) hu hv,pix_eq F va (by omega) (by omega),pix_eq F vb (by omega) (by omega),?_⟩
      rw [pix_eq F vr hu hv,hpx u v hu hv]
      simp only
      cases (PG.getD (2 * i + k.toNat) pg0).f0 <;> rfl
  have hL0 := L0_ok (l := l) (a := a) (b := b) (PG := PG) (F := F) (by omega) (by omega) hL2 (R * C) 0 F (by omega) (by omega)
  rw [Int.natCast_zero] at hL0
  rw [hL0,callE_go]
end Go.Vm.BinG
