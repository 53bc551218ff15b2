/-
  FOLD,PLAIN,part 5: all folds of a layout.
-/
import Derived.Test.YteidenpelbooeaaBinLd
namespace Go.Vm.BinG
theorem mem_grid {α:Type} {cols rows:Nat} {G:Nat→Nat→α} {x:α} (h:x∈grid cols rows G):∃ c r,c < cols∧r < rows∧G c r=x:=by
  simp only [grid,List.mem_flatMap,List.mem_map,List.mem_range'_1] at h
  obtain ⟨r,hr,c,hc,e⟩:=h
  exact ⟨c,r,by omega,by omega,e⟩
theorem inv0 {C R:Nat} (hC:1≤C∧C≤8) (hR:1≤R∧R≤8) (hN:R * C≤32):Inv C (R * C) C R G0 (grid C R lf0) 0 0 8 1:=by
  constructor
  · exact grid_length _ _ _
  · exact hN
  · exact hC
  · exact hR
  · intro l hl
    obtain ⟨c,r,hc,hr,rfl⟩:=mem_grid hl
    simp only [lf0]
    omega
  · intro c r hc hr
    refine ⟨[r * C+c],by simp,?_,by simp,?_⟩
    · have h1:(r * C+c) % C=c:=by rw [Nat.mul_comm,Nat.mul_add_mod]; exact Nat.mod_eq_of_lt hc
      have h2:(r * C+c) / C=r:=by
        rw [Nat.add_comm,Nat.add_mul_div_right _ _ (by omega),Nat.div_eq_of_lt hc]; omega
      simp only [List.map_cons,List.map_nil,leafOf,lf_some (grid_get C lf0 c r hc R hr),h1,h2]
      rfl
    · intro i
      simp only [List.mem_singleton]
      constructor
      · rintro rfl
        exact ⟨_,grid_get C lf0 c r hc R hr,by simp [lf0],by simp [lf0]⟩
      · rintro ⟨l,hl,hx,hy⟩
        have hi:i < R * C:=by
          have:=(List.getElem?_eq_some_iff.1 hl).1
          rwa [grid_length] at this
        have hm:i % C < C:=Nat.mod_lt _ (by omega)
        have hd:i / C < R:=Nat.div_lt_of_lt_mul (by rwa [Nat.mul_comm])
        have e:i / C * C+i % C=i:=by rw [Nat.mul_comm]; exact Nat.div_add_mod i C
        have:=grid_get C lf0 (i % C) (i / C) hm R hd
        rw [e] at this
        rw [hl] at this
        cases this
        simp only [lf0] at hx hy
        have h1:i % C=c:=by omega
        have h2:i / C=r:=by omega
        rw [h1,h2] at e
        exact e.symm
  · omega
  · omega
  · intro l hl
    obtain ⟨c,r,hc,hr,rfl⟩:=mem_grid hl
    simp [lf0]
  · omega
  · intro c r _ _
    simp [G0]
abbrev T12:=List Int×List Int×List Int×List Int×List Int×List Int×List Int×Int×Int×Int×Int×Int
def Rel (C N k:Nat) (t:S_fold_sheet) (u:T12):Prop:=∃ cols rows G L X0 Y0,t=mk cols rows G∧u=shT L X0 Y0 (X0+(cols:Nat)) (Y0+(rows:Nat)) C∧Inv C N cols rows G L X0 Y0 (8 * 4 ^ k) (2 ^ k)
def L12 (F:Nat) (a0:S_FoldScheme) (n:Nat) (u:T12) (k:Int):Option (Out Unit Int) :=
  ref3_FoldError_L0 F a0 n u.1 u.2.1 u.2.2.1 u.2.2.2.1 u.2.2.2.2.1 u.2.2.2.2.2.1 u.2.2.2.2.2.2.1 u.2.2.2.2.2.2.2.1 u.2.2.2.2.2.2.2.2.1 u.2.2.2.2.2.2.2.2.2.1 u.2.2.2.2.2.2.2.2.2.2.1 u.2.2.2.2.2.2.2.2.2.2.2 k
def L18 (F:Nat) (a0:S_FoldScheme) (a1:Int) (n:Nat) (u:T12) (k:Int):Option T12 :=
  ref3_Folded_L0 F a0 a1 n u.1 u.2.1 u.2.2.1 u.2.2.2.1 u.2.2.2.2.1 u.2.2.2.2.2.1 u.2.2.2.2.2.2.1 u.2.2.2.2.2.2.2.1 u.2.2.2.2.2.2.2.2.1 u.2.2.2.2.2.2.2.2.2.1 u.2.2.2.2.2.2.2.2.2.2.1 u.2.2.2.2.2.2.2.2.2.2.2 k
theorem pow_le {k:Nat} (hk:k≤8):(8:Int) * 4 ^ k≤600000∧2 ^ k≤256:=by
  have h1:4 ^ k≤4 ^ 8:=Nat.pow_le_pow_right (by omega) hk
  have h2:2 ^ k≤2 ^ 8:=Nat.pow_le_pow_right (by omega) hk
  have h3:((4:Int) ^ k)=((4 ^ k:Nat):Int):=by simp
  rw [h3]
  omega
theorem pow_lt {k:Nat} (hk:k < 8):(8:Int) * 4 ^ k≤140000:=by
  have h1:4 ^ k≤4 ^ 7:=Nat.pow_le_pow_right (by omega) (by omega)
  have h3:((4:Int) ^ k)=((4 ^ k:Nat):Int):=by simp
  rw [h3]
  omega
/-- One fold on both sides. -/
theorem rel_step {F:Nat} (hF:70≤F) {C N k:Nat} (hk:k < 8) {cols rows:Nat} {G:Nat→Nat→List S_FoldLeaf} {L:List Lf} {X0 Y0:Int} (inv:Inv C N cols rows G L X0 Y0 (8 * 4 ^ k) (2 ^ k)) {s:S_FoldStep} (hs:Good s cols rows) :
    ∃ t' u',fold_sheet_fold F (mk cols rows G) s=some t'∧ref3_Sheet_Fold F s (lists L).a (lists L).b (lists L).c (lists L).d (lists L).e (lists L).f (lists L).g X0 Y0 (X0+cols) (Y0+rows) C=some u'∧Rel C N (k+1) t' u':=by
  have hq:=(pow_le (k:=k) (by omega)).2
  obtain ⟨L',e,inv'⟩:=ref3_Sheet_Fold_eq (F:=F) (by omega) inv (pow_lt hk) hs C
  refine ⟨_,_,fold_sheet_fold_eq (by omega) inv.hc.2 inv.hr.2 (fun c r hc hr=>by have:=inv.bG c r hc hr; omega) hs,e,_,_,_,L',_,_,rfl,rfl,?_⟩
  have e1:(8:Int) * 4 ^ (k+1)=4 * (8 * 4 ^ k):=by rw [Int.pow_succ]; omega
  have e2:2 ^ (k+1)=2 * 2 ^ k:=by rw [Nat.pow_succ]; omega
  rw [e1,e2]
  exact inv'
theorem loops {F:Nat} (hF:70≤F) (a0:S_FoldScheme) (hlen:a0.f2.length≤8) {C N:Nat} :
    ∀ (m k n n2:Nat) (t:S_fold_sheet) (u:T12),k+m=a0.f2.length→m < n→m < n2→Rel C N k t u →
      ∃ o:Out Unit Int,fold_Check_L0 F a0 n t.f0 t.f1 t.f2 k=some o∧L12 F a0 n2 u k=some o∧(∀ e,o=.esc e→e≠0) ∧
        (o=.go ()→(∀ j:Nat,k≤j→j < a0.f2.length→0≤(a0.f2.getD j (S_FoldStep.mk 0 0 false)).f0∧(a0.f2.getD j (S_FoldStep.mk 0 0 false)).f0≤3)∧∀ a1:Nat,k≤a1→a1≤a0.f2.length→∀ n3 n4:Nat,a1 - k < n3→a1 - k < n4 →
          ∃ t' u',fold_after_L0 F a0 a1 n3 t.f0 t.f1 t.f2 k=some (t'.f0,t'.f1,t'.f2)∧L18 F a0 a1 n4 u k=some u'∧Rel C N a1 t' u'):=by
  have stop:∀ (k n3 n4:Nat) (t:S_fold_sheet) (u:T12),k≤a0.f2.length→0 < n3→0 < n4→Rel C N k t u→∃ t' u',fold_after_L0 F a0 (k:Int) n3 t.f0 t.f1 t.f2 k=some (t'.f0,t'.f1,t'.f2)∧L18 F a0 (k:Int) n4 u k=some u'∧Rel C N k t' u':=by
    intro k n3 n4 t u hk h3 h4 hr
    obtain ⟨n3,rfl⟩:∃ j,n3=j+1:=⟨n3 - 1,by omega⟩
    obtain ⟨n4,rfl⟩:∃ j,n4=j+1:=⟨n4 - 1,by omega⟩
    have hT:(a0.f2.drop (0:Int).toNat).take ((k:Int).toNat - (0:Int).toNat)=a0.f2.take k:=by simp
    have hd:decide ((k:Int) < (((a0.f2.drop (0:Int).toNat).take ((k:Int).toNat - (0:Int).toNat)).length:Int))=false:=by
      rw [hT]; simp; omega
    refine ⟨t,u,?_,?_,hr⟩
    · rw [fold_after_L0]
      simp only [hd,cond_false]
    · unfold L18
      rw [ref3_Folded_L0]
      simp only [hd,cond_false]
  intro m
  induction m with
  | zero =>
    intro k n n2 t u h hn hn2 hr
    obtain ⟨n,rfl⟩:∃ j,n=j+1:=⟨n - 1,by omega⟩
    obtain ⟨n2,rfl⟩:∃ j,n2=j+1:=⟨n2 - 1,by omega⟩
    have hd:decide ((k:Int) < (a0.f2.length:Int))=false:=by simp; omega
    refine ⟨.go (),?_,?_,fun e h=>(by cases h),fun _=>⟨fun j _ _=>by omega,fun a1 h1 h2 n3 n4 h3 h4=>?_⟩⟩
    · rw [fold_Check_L0]
      simp only [hd,cond_false]
    · unfold L12
      rw [ref3_FoldError_L0]
      simp only [hd,cond_false]
    · obtain rfl:a1=k:=by omega
      exact stop a1 n3 n4 t u h2 (by omega) (by omega) hr
  | succ m ih =>
    intro k n n2 t u h hn hn2 hr
    obtain ⟨n,rfl⟩:∃ j,n=j+1:=⟨n - 1,by omega⟩
    obtain ⟨n2,rfl⟩:∃ j,n2=j+1:=⟨n2 - 1,by omega⟩
    have hd:decide ((k:Int) < (a0.f2.length:Int))=true:=by simp; omega
    have hw:IntKind.i64.wrap ((k:Int)+1)=((k+1:Nat):Int):=by rw [wrap_id (by omega)]; omega
    obtain ⟨s,hsd⟩:∃ s,a0.f2.getD k (S_FoldStep.mk 0 0 false)=s:=⟨_,rfl⟩
    have hsg:a0.f2[k]? = some s:=by
      rw [← hsd,List.getD_eq_getElem?_getD,List.getElem?_eq_getElem (by omega)]; rfl
    obtain ⟨cols,rows,G,L,X0,Y0,rfl,rfl,inv⟩:=hr
    have hc:=inv.hc
    have hrr:=inv.hr
    have hbX:=inv.bX
    have hbY:=inv.bY
    have hpw:=(pow_le (k:=k) (by omega)).1
    have q1:fold_Check_L0 F a0 (n+1) (mk cols rows G).f0 (mk cols rows G).f1 (mk cols rows G).f2 k =
        (bif (bif decide (s.f0 < 0) then true else decide (s.f0 > 3)) then some (.esc 14)
         else call (bif ((decide (s.f1 < 1) == false) && true) then fold_sheet_extent F (mk cols rows G) s else some 0) fun y1 =>
          bif (bif decide (s.f1 < 1) then true else decide (s.f1 ≥ y1)) then some (.esc 3)
          else call (fold_sheet_fold F (mk cols rows G) s) fun y2=>fold_Check_L0 F a0 n y2.f0 y2.f1 y2.f2 ((k+1:Nat):Int)):=by
      rw [fold_Check_L0]
      simp only [hd,cond_true,Int.toNat_natCast,hsd,hw,lett_eq]
      rw [chk_pos (by omega)]
    have q2:L12 F a0 (n2+1) (shT L X0 Y0 (X0+cols) (Y0+rows) C) k =
        (bif (bif decide (s.f0 < 0) then true else decide (s.f0 > 3)) then some (.esc 14)
         else call (bif decide (s.f0 < 2) then some (IntKind.i64.wrap (X0+cols - X0)) else some (IntKind.i64.wrap (Y0+rows - Y0))) fun v14 =>
          bif (bif decide (s.f1 < 1) then true else decide (s.f1 ≥ v14)) then some (.esc 3)
          else call (ref3_Sheet_Fold F s (lists L).a (lists L).b (lists L).c (lists L).d (lists L).e (lists L).f (lists L).g X0 Y0 (X0+cols) (Y0+rows) C) fun y1=>L12 F a0 n2 y1 ((k+1:Nat):Int)):=by
      unfold L12
      rw [ref3_FoldError_L0]
      simp only [hd,cond_true,Int.toNat_natCast,hsd,hw,lett_eq,shT]
      rw [chk_pos (by omega)]
    rw [q1,q2]
    by_cases hside:0≤s.f0∧s.f0≤3
    · have d1:(bif decide (s.f0 < 0) then true else decide (s.f0 > 3))=false:=by
        have e1:decide (s.f0 < 0)=false:=by simp; omega
        have e2:decide (s.f0 > 3)=false:=by simp; omega
        rw [e1,e2]; rfl
      rw [d1]
      simp only [cond_false]
      have hac:decide (s.f0 < 2)=acr s:=by
        unfold acr
        rcases (by omega:s.f0=0∨s.f0=1∨s.f0=2∨s.f0=3) with h | h | h | h <;> rw [h] <;> rfl
      have w1:IntKind.i64.wrap (X0+cols - X0)=cols:=by rw [wrap_id (by omega)]; omega
      have w2:IntKind.i64.wrap (Y0+rows - Y0)=rows:=by rw [wrap_id (by omega)]; omega
      have hv14:(bif decide (s.f0 < 2) then some (IntKind.i64.wrap (X0+cols - X0)) else some (IntKind.i64.wrap (Y0+rows - Y0)))=some (ext s cols rows):=by
        rw [hac,w1,w2]; unfold ext; cases acr s <;> rfl
      rw [hv14,call_some]
      have h29:fold_sheet_extent F (mk cols rows G) s=some (ext s cols rows):=fold_sheet_extent_eq F cols rows G s
      by_cases hl1:s.f1 < 1
      · have e1:decide (s.f1 < 1)=true:=by simpa using hl1
        refine ⟨.esc 3,by simp [e1,call],by simp [e1],fun e h=>by cases h; omega,fun h=>by cases h⟩
      · have e1:decide (s.f1 < 1)=false:=by simpa using hl1
        have hy1:(bif ((decide (s.f1 < 1) == false) && true) then fold_sheet_extent F (mk cols rows G) s else some 0)=some (ext s cols rows):=by
          rw [e1,h29]; rfl
        rw [hy1,call_some]
        by_cases hl2:s.f1 ≥ ext s cols rows
        · have e2:decide (s.f1 ≥ ext s cols rows)=true:=by simpa using hl2
          rw [e1,e2]
          exact ⟨.esc 3,rfl,rfl,fun e h=>by cases h; omega,fun h=>by cases h⟩
        · have e2:decide (s.f1 ≥ ext s cols rows)=false:=by simpa using hl2
          rw [e1,e2]
          simp only [cond_false]
          have hgood:Good s cols rows:=⟨hside,by omega,by omega⟩
          obtain ⟨t',u',h30,h32,hrel⟩:=rel_step hF (by omega) inv hgood
          rw [h30,h32,call_some,call_some]
          obtain ⟨o,o1,o2,o3,o4⟩:=ih (k+1) n n2 t' u' (by omega) (by omega) (by omega) hrel
          refine ⟨o,o1,o2,o3,fun hgo=>⟨fun j h1 h2=>?_,fun a1 h1 h2 n3 n4 h3 h4=>?_⟩⟩
          · by_cases hjk:j=k
            · subst hjk
              rw [hsd]
              exact hside
            · exact (o4 hgo).1 j (by omega) h2
          by_cases hk:a1=k
          · subst hk
            exact stop a1 n3 n4 _ _ h2 (by omega) (by omega) ⟨cols,rows,G,L,X0,Y0,rfl,rfl,inv⟩
          · obtain ⟨n3,rfl⟩:∃ j,n3=j+1:=⟨n3 - 1,by omega⟩
            obtain ⟨n4,rfl⟩:∃ j,n4=j+1:=⟨n4 - 1,by omega⟩
            obtain ⟨t2,u2,r1,r2,r3⟩:=(o4 hgo).2 a1 (by omega) h2 n3 n4 (by omega) (by omega)
            have hT:(a0.f2.drop (0:Int).toNat).take ((a1:Int).toNat - (0:Int).toNat)=a0.f2.take a1:=by simp
            have hTd:(a0.f2.take a1).getD k (S_FoldStep.mk 0 0 false)=s:=by
              rw [List.getD_eq_getElem?_getD,List.getElem?_take_of_lt (by omega),hsg]; rfl
            have hTl:(a0.f2.take a1).length=a1:=by simp; omega
            have hd3:decide ((k:Int) < (a1:Int))=true:=by simp; omega
            refine ⟨t2,u2,?_,?_,r3⟩
            · rw [fold_after_L0]
              simp only [hT,hTl,hd3,cond_true]
              simp only [Int.toNat_natCast,hTd,hw]
              rw [chk_pos (by omega)]
              have:fold_sheet_fold F (S_fold_sheet.mk (mk cols rows G).f0 (mk cols rows G).f1 (mk cols rows G).f2) s=some t':=h30
              rw [this,call_some]
              exact r1
            · unfold L18
              rw [ref3_Folded_L0]
              simp only [hT,hTl,hd3,cond_true]
              simp only [Int.toNat_natCast,hTd,hw,shT]
              rw [chk_pos (by omega)]
              have:ref3_Sheet_Fold F s (lists L).a (lists L).b (lists L).c (lists L).d (lists L).e (lists L).f (lists L).g X0 Y0 (X0+cols) (Y0+rows) C=some u':=h32
              rw [this,call_some]
              exact r2
    · have d1:(bif decide (s.f0 < 0) then true else decide (s.f0 > 3))=true:=by
        by_cases h0:s.f0 < 0
        · simp [h0]
        · have:s.f0 > 3:=by omega
          simp [this]
      rw [d1]
      exact ⟨.esc 14,rfl,rfl,fun e h=>by cases h; omega,fun h=>by cases h⟩
end Go.Vm.BinG
