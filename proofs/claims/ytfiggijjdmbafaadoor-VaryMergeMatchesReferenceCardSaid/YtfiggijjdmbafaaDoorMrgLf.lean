/-
  vary.Parse,plain law 6: the error of a table.
-/
import Derived.Test.YtfiggijjdmbafaaDoorMrgLe
namespace Go.Vm.MrgG
def rl:List (List UInt8)→Nat
  | []=>0
  | v :: t=>1+ql v+rl t
def re (k:Nat):Nat→List (List (List UInt8))→Int
  | _,[]=>0
  | z,r :: rs=>bif ((r.length:Int) != (k:Int)) then 4 else bif decide (((z+rl r:Nat):Int) > 8192) then 2 else re k (z+rl r) rs
theorem ql_le {v:List UInt8} (h:v.length≤8192):ql v≤16386:=by
  have:=cnt_le v
  unfold ql
  cases marks v
  · show v.length+cnt v+0≤_; omega
  · show v.length+cnt v+2≤_; omega
theorem rl_le:∀ (r:List (List UInt8)),(∀ v∈r,v.length≤8192)→rl r≤r.length * 16387
  | [],_=>Nat.le_refl _
  | v :: r,h=>by
    have h1:=ql_le (h v (List.mem_cons_self ..))
    have h2:=rl_le r fun x hx=>h x (List.mem_cons_of_mem _ hx)
    rw [rl,List.length_cons]
    omega
theorem drop_cons {α:Type} {l:List α} {i:Nat} {x:α} {t:List α} (h:l.drop i=x :: t):i < l.length∧l[i]? = some x∧l.drop (i+1)=t:=by
  have hi:i < l.length:=by
    rcases Nat.lt_or_ge i l.length with h' | h'
    · exact h'
    · rw [List.drop_eq_nil_iff.2 h'] at h; cases h
  rw [List.drop_eq_getElem_cons hi] at h
  injection h with a b
  exact ⟨hi,by rw [List.getElem?_eq_getElem hi,a],b⟩
theorem drop_nil {α:Type} {l:List α} {i:Nat} (h:l.drop i=[]) (hi:i≤l.length):i=l.length:=by
  have:=List.drop_eq_nil_iff.1 h; omega
/-! ## One line -/
theorem L4_step (F:Nat) (a:S_VaryTable) (j n i:Nat) (row:List (List UInt8)) (x b:List UInt8) (hrow:a.f1.getD j []=row) (hx:row[i]? = some x) (hl:x.length≤8192) (hr:row.length≤16) (hb:b.length≤4000000000) :
    ∃ b1,vary_Print_L4 F a (j:Int) (n+1) b i=vary_Print_L4 F a (j:Int) n b1 ((i+1:Nat):Int)∧b1.length=b.length+(bif decide ((i:Int) > 0) then 1 else 0)+ql x:=by
  have hi:=lt_of_get hx
  have hq:=ql_le hl
  obtain ⟨w,hw,hwl⟩:=vquoted F x (by omega)
  rw [vary_Print_L4]
  simp only [nat_toNat,hrow,getD_of hx]
  rw [dec_lt hi,cond_true,chk_in hi,wrap_succ (by omega)]
  cases decide ((i:Int) > 0)
  · rw [cond_false,call_some,hw,call_some,strings_Builder_WriteString,chk_pos (by omega),call_some]
    exact ⟨_,rfl,by simp only [List.length_append,cond_false]; omega⟩
  · rw [cond_true,strings_Builder_WriteByte,chk_pos ⟨by omega,by omega⟩,chk_pos (by simp only [List.length_singleton]; omega),call_some,call_some,hw,call_some,strings_Builder_WriteString,
      chk_pos (by simp only [List.length_append,List.length_singleton]; omega),call_some]
    exact ⟨_,rfl,by simp only [List.length_append,List.length_singleton,cond_true]; omega⟩
theorem L4_run (F:Nat) (a:S_VaryTable) (j:Nat) (row:List (List UInt8)) (hrow:a.f1.getD j []=row) (hl:∀ x∈row,x.length≤8192) (hr:row.length≤16) :
    ∀ (t:List (List UInt8)) (n i:Nat) (b:List UInt8),row.drop i=t→i≤row.length→t.length < n→0 < i→b.length+rl t≤4000000000 →
      ∃ b',vary_Print_L4 F a (j:Int) n b i=some b'∧b'.length=b.length+rl t:=by
  intro t
  induction t with
  | nil =>
    intro n i b ht hi hn _ _
    obtain ⟨n,rfl⟩:∃ k,n=k+1:=⟨n - 1,by omega⟩
    have:=drop_nil ht hi
    subst this
    rw [vary_Print_L4]
    simp only [nat_toNat,hrow]
    rw [dec_end,cond_false]
    exact ⟨b,rfl,rfl⟩
  | cons x t ih =>
    intro n i b ht hi hn h0 hb
    simp only [List.length_cons] at hn
    obtain ⟨n,rfl⟩:∃ k,n=k+1:=⟨n - 1,by omega⟩
    obtain ⟨hlt,hx,ht'⟩:=drop_cons ht
    rw [rl] at hb ⊢
    obtain ⟨b1,e1,l1⟩:=L4_step F a j n i row x b hrow hx (hl x (List.mem_of_getElem? hx)) hr (by omega)
    rw [decide_eq_true (by omega),cond_true] at l1
    obtain ⟨b',e2,l2⟩:=ih n (i+1) b1 ht' hlt (by omega) (by omega) (by omega)
    exact ⟨b',by rw [e1,e2],by omega⟩
theorem L4_row (F:Nat) (a:S_VaryTable) (j:Nat) (row:List (List UInt8)) (hrow:a.f1.getD j []=row) (hl:∀ x∈row,x.length≤8192) (hr:row.length≤16) (hne:row≠[]) (hF:17 < F) (b:List UInt8) (hb:b.length+rl row≤4000000000) :
    ∃ b',vary_Print_L4 F a (j:Int) F b 0=some b'∧b'.length+1=b.length+rl row:=by
  obtain ⟨n,rfl⟩:∃ k,F=k+1:=⟨F - 1,by omega⟩
  cases row with
  | nil=>exact absurd rfl hne
  | cons x t =>
    rw [rl] at hb ⊢
    obtain ⟨b1,e1,l1⟩:=L4_step (n+1) a j n 0 (x :: t) x b hrow rfl (hl x (List.mem_cons_self ..)) hr (by omega)
    rw [show (bif decide (((0:Nat):Int) > 0) then 1 else 0)=0 from rfl] at l1
    simp only [List.length_cons] at hr
    obtain ⟨b',e2,l2⟩:=L4_run (n+1) a j (x :: t) hrow hl (by simpa using hr) t n 1 b1 rfl (by simp) (by omega) (by omega) (by omega)
    exact ⟨b',by rw [show (0:Int)=((0:Nat):Int) from rfl,e1]; exact e2,by omega⟩
/-! ## All lines -/
def fine (w:List (List UInt8)):Prop:=∀ x∈w,x.length≤8192
theorem L2_run (F:Nat) (a:S_VaryTable) (hF:17 < F) (h1:1≤a.f0.length) (h16:a.f0.length≤16) (hr:a.f1.length≤256) (hv:∀ w∈a.f1,fine w) :
    ∀ (rs:List (List (List UInt8))) (n j:Nat) (b:List UInt8),a.f1.drop j=rs→j≤a.f1.length→rs.length < n→b.length≤1000000 →
      (re a.f0.length b.length rs=0∧∃ b',vary_Print_L2 F a n b j=some (.go b')∧b'.length≤1000000) ∨
      (re a.f0.length b.length rs≠0∧vary_Print_L2 F a n b j=some (.esc ([],re a.f0.length b.length rs))):=by
  intro rs
  induction rs with
  | nil =>
    intro n j b ht hi hn hb
    obtain ⟨n,rfl⟩:∃ k,n=k+1:=⟨n - 1,by omega⟩
    have:=drop_nil ht hi
    subst this
    rw [vary_Print_L2,dec_end,cond_false]
    exact .inl ⟨rfl,b,rfl,hb⟩
  | cons r rs ih =>
    intro n j b ht hi hn hb
    simp only [List.length_cons] at hn
    obtain ⟨n,rfl⟩:∃ k,n=k+1:=⟨n - 1,by omega⟩
    obtain ⟨hlt,hx,ht'⟩:=drop_cons ht
    have hm:=hv r (List.mem_of_getElem? hx)
    rw [vary_Print_L2,dec_lt hlt,cond_true,chk_in hlt,wrap_succ (by omega),re]
    simp only [nat_toNat,getD_of hx]
    cases hk:((r.length:Int) != (a.f0.length:Int))
    · have hk':r.length=a.f0.length:=by
        have:((r.length:Int) == (a.f0.length:Int))=true:=by rw [bne] at hk; simpa using hk
        have:=beq_iff_eq.1 this
        omega
      have hrl:=rl_le r hm
      have hrl2:rl r≤262192:=by
        have:r.length * 16387≤16 * 16387:=Nat.mul_le_mul_right _ (by omega)
        omega
      obtain ⟨b',e,l⟩:=L4_row F a j r (getD_of hx) hm (by omega) (by rintro rfl; simp at hk'; omega) hF b (by omega)
      rw [cond_false,cond_false,e,call_some,strings_Builder_WriteByte,chk_pos ⟨by omega,by omega⟩,chk_pos (by simp only [List.length_singleton]; omega),call_some,
        strings_Builder_Len,call_some]
      have hlen:(b'++[UInt8.ofNat (10:Int).toNat]).length=b.length+rl r:=by rw [List.length_append]; exact l
      simp only [hlen]
      cases hd:decide (((b.length+rl r:Nat):Int) > 8192)
      · rw [cond_false,cond_false]
        have hd':=of_decide_eq_false hd
        have:=ih n (j+1) (b'++[UInt8.ofNat (10:Int).toNat]) ht' hlt (by omega) (by rw [hlen]; omega)
        rw [hlen] at this
        exact this
      · exact .inr ⟨by show (2:Int)≠0; decide,rfl⟩
    · exact .inr ⟨by show (4:Int)≠0; decide,rfl⟩
/-! ## Print's error -/
def ne (f:List (List UInt8)) (i:Nat) (x:List UInt8):Int:=bif !nm x then 6 else bif (f.take i).contains x then 7 else 0
def sz (f:List (List UInt8)):Nat:=f.length+Lib.lens f
def pe (f:List (List UInt8)) (rows:List (List (List UInt8))):Int :=
  bif (bif (decide ((f.length:Int) > (16:Int))) then true else (decide ((rows.length:Int) > (256:Int)))) then 2
  else bif fe (ne f) 0 f == 0 then re f.length (sz f) rows else fe (ne f) 0 f
theorem lens_le:∀ (r:List (List UInt8)),fine r→Lib.lens r≤r.length * 8192
  | [],_=>Nat.le_refl _
  | v :: r,h=>by
    have h1:=h v (List.mem_cons_self ..)
    have h2:=lens_le r fun x hx=>h x (List.mem_cons_of_mem _ hx)
    unfold Lib.lens at h2 ⊢
    rw [List.map_cons,List.sum_cons,List.length_cons]
    omega
theorem names_L0 (F:Nat) (a:S_VaryTable) (hF:8193 < F) (h16:a.f0.length≤16) (hv:fine a.f0) :
    vary_Print_L0 F a F 0=some (bif fe (ne a.f0) 0 a.f0 == 0 then .go () else .esc ([],fe (ne a.f0) 0 a.f0)):=by
  refine scanE a.f0 (vary_Print_L0 F a) (ne a.f0) (fun z=>([],z)) ?_ ?_ F (by omega)
  · intro n i x hx
    have hi:=lt_of_get hx
    have hxl:=hv x (List.mem_of_getElem? hx)
    rw [vary_Print_L0,dec_lt hi,cond_true,chk_in hi,wrap_succ (by omega)]
    simp only [nat_toNat,getD_of hx]
    rw [plain_eq F x (by omega) (by omega),call_some]
    unfold ne
    cases hn:nm x
    · rfl
    · rw [Bool.not_true,cond_false,cond_false,chk_pos ⟨by omega,by omega,by omega⟩,
        show ((a.f0.drop (0:Int).toNat).take (i - (0:Int).toNat))=a.f0.take i by rw [show (0:Int).toNat=0 from rfl,List.drop_zero,Nat.sub_zero],
        contains_eq F _ x (by rw [List.length_take]; omega) (by rw [List.length_take]; omega),call_some]
      cases (a.f0.take i).contains x <;> rfl
  · intro n
    rw [vary_Print_L0,dec_end,cond_false]
theorem check_eq (F:Nat) (f:List (List UInt8)) (rows:List (List (List UInt8))) (hF:8193 < F) (hne:f≠[]) (hf:fine f) (hv:∀ w∈rows,fine w):vary_Check F (S_VaryTable.mk f rows)=some (pe f rows):=by
  unfold vary_Check vary_Print pe
  rw [lett_eq]
  simp only
  cases h0:(bif (decide ((f.length:Int) > (16:Int))) then true else (decide ((rows.length:Int) > (256:Int))))
  · have h16:f.length≤16:=by
      rcases Nat.lt_or_ge 16 f.length with h | h
      · rw [decide_eq_true (by omega)] at h0; cases h0
      · exact h
    rw [decide_eq_false (by omega),cond_false] at h0
    have h256:=of_decide_eq_false h0
    have hl:f.length≠0:=fun h=>hne (List.length_eq_zero_iff.1 h)
    rw [cond_false,cond_false,show ((f.length:Int) == (0:Int))=false from beq_eq_false_iff_ne.2 (by omega),cond_false,names_L0 F (S_VaryTable.mk f rows) hF h16 hf]
    simp only
    cases hq:fe (ne f) 0 f == 0
    · rfl
    · have hlens:=lens_le f hf
      have hlens2:Lib.lens f≤131072:=by
        have:f.length * 8192≤16 * 8192:=Nat.mul_le_mul_right _ (by omega)
        omega
      have hjl:(Lib.join f [44]).length+1=sz f:=by
        cases f with
        | nil=>exact absurd rfl hne
        | cons x r =>
          rw [Lib.join_length]
          unfold sz
          simp only [List.length_cons,List.length_nil]
          omega
      have hsz:sz f≤131088:=by unfold sz; omega
      rw [cond_true,cond_true,callE_go,chk_pos ⟨by omega,by omega⟩,chk_pos (by simp only [List.length_singleton]; omega)]
      rw [strings_Builder_WriteString,chk_pos (by simp only [List.length_append,List.length_singleton,List.length_nil]; omega),call_some]
      have hlen:(([]:List UInt8)++(Lib.join f [44]++[10])).length=sz f:=by
        rw [List.nil_append,List.length_append,← hjl]; rfl
      have:=L2_run F (S_VaryTable.mk f rows) (by omega) (by simp only; omega) h16 (by simp only; omega) hv rows F 0 ([]++(Lib.join f [44]++[10])) rfl (by simp) (by omega) (by rw [hlen]; omega)
      rw [show ((0:Nat):Int)=0 from rfl,hlen] at this
      simp only at this ⊢
      rcases this with ⟨a1,b',a2,a3⟩ | ⟨a1,a2⟩
      · rw [a2,callE_go,chk_pos (by omega),a1]; rfl
      · rw [a2]; rfl
  · rfl
end Go.Vm.MrgG
