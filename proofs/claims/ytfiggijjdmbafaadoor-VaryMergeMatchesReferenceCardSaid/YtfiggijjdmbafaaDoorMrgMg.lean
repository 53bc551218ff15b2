/-
  vary.Merge,plain law 7: Merge and the reference agree,for tables with the law's two fields.
-/
import Derived.Test.YtfiggijjdmbafaaDoorMrgMf
namespace Go.Vm.MrgG
/-- What a filling comes to. -/
def filled:(List UInt8×List Bool) ⊕ Int→List UInt8×Int
  | .inr e=>([],e)
  | .inl (o,st)=>bif decide ((st.length:Int) > 1) then ([],12) else bif decide ((o.length:Int) > 8192) then ([],2) else (o,0)
theorem merged_eq (F:Nat) (s:List UInt8) (row:List (List UInt8)) (hrow:row.length=2) (hv:∀ x∈row,x.length≤10000) (hs:s.length≤8192) (hF:8200 < F) :
    ref3_Merged F s fs2 row=some (filled (MG row s [true] [])):=by
  obtain ⟨m,rfl⟩:∃ m,F=m+1:=⟨F - 1,by omega⟩
  have h:=merged_L0 (m+1) s row hrow hv hs hF m s 0 [true] [] rfl (by omega) (by omega) (by simp) (by simp) (by simp)
  rw [show ((0:Nat):Int)=0 from rfl] at h
  unfold ref3_Merged
  have h':ref3_Merged_L0 (m+1) s fs2 row (m+1) [] [true] 0=some (mres (mg row m s [true] [])):=h
  rw [h']
  unfold MG
  rw [mg_fuel row s.length m s [true] [] (by omega) (by omega)]
  cases mg row m s [true] [] with
  | inr e=>rfl
  | inl x =>
    obtain ⟨o,st⟩:=x
    rw [show mres (.inl (o,st))=.go (o,st.reverse) from rfl,callE_go]
    simp only [List.length_reverse]
    show _=some (bif decide ((st.length:Int) > 1) then ([],12) else bif decide ((o.length:Int) > 8192) then ([],2) else (o,0))
    cases decide ((st.length:Int) > 1)
    · cases decide ((o.length:Int) > 8192) <;> rfl
    · rfl
theorem merge_gen (F:Nat) (s:List UInt8) (rows:List (List (List UInt8))) (j:Nat) (row:List (List UInt8)) (hj:rows[j]? = some row) (hrow:row.length=2) (hpe:pe fs2 rows=0) (hfine:∀ w∈rows,fine w) (hn:rows.length≤1000) (hF:8300 < F) :
    vary_Merge F s (S_VaryTable.mk fs2 rows) (j:Int)=bif decide ((s.length:Int) > 8192) then some ([],2) else some (filled (MG row s [true] [])):=by
  have hlt:=lt_of_get hj
  have hv:∀ x∈row,x.length≤10000:=fun x hx=>by have:=hfine row (List.mem_of_getElem? hj) x hx; omega
  unfold vary_Merge
  rw [check_eq F fs2 rows (by omega) (by simp) (fun x hx=>by rcases List.mem_cons.1 hx with rfl | hx; simp; rw [List.mem_singleton.1 hx]; simp) hfine,hpe,call_some,show ((0:Int) != 0)=false from rfl,cond_false]
  cases hd:decide ((s.length:Int) > 8192)
  rotate_left
  · rfl
  have hd':=of_decide_eq_false hd
  simp only
  rw [cond_false,cond_false,decide_eq_false (show ¬ (j:Int) < 0 by omega),cond_false,decide_eq_false (show ¬ (j:Int) ≥ (rows.length:Int) by omega),cond_false,chk_in hlt,nat_toNat,getD_of hj]
  unfold vary_merger_run
  obtain ⟨e,t',o',q1,q2⟩:=run_ok F rows row hrow hv (by omega) F 0 (by omega) (by omega) true [] s [] rfl (by omega) (by simp)
  rw [show ((0:Nat):Int)=0 from rfl] at q1
  rw [q1,call_some]
  simp only
  rcases q2 with ⟨rfl,_,q⟩ | ⟨q,_⟩ | ⟨q,q3⟩
  · rw [show ((0:Int) != 0)=false from rfl,cond_false,strings_Builder_Len_v1,call_some]
    simp only
    cases hM:MG row s [true] [] with
    | inr e=>rw [hM] at q; exact q.elim
    | inl x =>
      obtain ⟨o,st⟩:=x
      rw [hM] at q
      obtain ⟨qE,rfl⟩:=q
      show _=some (bif decide ((([true]:List Bool).length:Int) > 1) then ([],12) else bif decide ((o.length:Int) > 8192) then ([],2) else (o,0))
      rw [show decide (((([true]:List Bool)).length:Int) > 1)=false from rfl,cond_false]
      rcases qE with ⟨rfl,ho⟩ | ⟨h1,h2⟩
      · rw [decide_eq_false (by omega),cond_false,cond_false,chk_pos (by omega)]
      · rw [decide_eq_true (by omega),decide_eq_true (by omega),cond_true,cond_true]
  · omega
  · rw [show (e != 0)=true by rw [bne,q]; rfl,cond_true]
    cases hM:MG row s [true] [] with
    | inr e'=>rw [hM] at q3; obtain rfl:e'=e:=q3; rfl
    | inl x =>
      obtain ⟨o,st⟩:=x
      rw [hM] at q3
      show _=some (bif decide ((st.length:Int) > 1) then ([],12) else bif decide ((o.length:Int) > 8192) then ([],2) else (o,0))
      change (bif decide ((st.length:Int) > 1) then 12 else 0)=e at q3
      cases hl:decide ((st.length:Int) > 1)
      · rw [hl] at q3
        change (0:Int)=e at q3
        subst q3; cases q
      · rw [hl] at q3
        change (12:Int)=e at q3
        subst q3; rfl
/-- The law's tables. -/
def rows2 (r0 r1:List UInt8):List (List (List UInt8)):=[[[120],[]],[r0,r1]]
theorem pe_two {r0 r1:List UInt8} (h0:r0.length≤1000) (h1:r1.length≤1000):pe fs2 (rows2 r0 r1)=0:=by
  unfold pe rows2
  have hq:∀ {r:List UInt8},r.length≤1000→ql r≤2002:=fun {r} h=>by
    have:=cnt_le r
    unfold ql
    cases marks r
    · show r.length+cnt r+0≤_; omega
    · show r.length+cnt r+2≤_; omega
  have a0:=hq h0
  have a1:=hq h1
  rw [show (bif (decide ((fs2.length:Int) > (16:Int))) then true else (decide ((([[[120],[]],[r0,r1]]:List (List (List UInt8))).length:Int) > (256:Int))))=false from rfl,cond_false,show (fe (ne fs2) 0 fs2 == 0)=true by decide +kernel,cond_true]
  rw [re,show ((([[120],[]]:List (List UInt8)).length:Int) != ((fs2.length:Nat):Int))=false from rfl,cond_false,show sz fs2+rl [[120],[]]=10 from rfl,show decide ((((10:Nat)):Int) > 8192)=false from rfl,cond_false]
  rw [re,show ((([r0,r1]:List (List UInt8)).length:Int) != ((fs2.length:Nat):Int))=false from rfl,cond_false]
  have hl:rl [r0,r1]≤4006:=by rw [rl,rl,rl]; omega
  rw [decide_eq_false (by omega),cond_false]
  rfl
theorem fine_two {r0 r1:List UInt8} (h0:r0.length≤1000) (h1:r1.length≤1000):∀ w∈rows2 r0 r1,fine w:=by
  intro w hw x hx
  simp only [rows2,List.mem_cons,List.not_mem_nil,or_false] at hw
  rcases hw with rfl | rfl
  · simp only [List.mem_cons,List.not_mem_nil,or_false] at hx
    rcases hx with rfl | rfl <;> simp
  · simp only [List.mem_cons,List.not_mem_nil,or_false] at hx
    rcases hx with rfl | rfl <;> omega
/-- The law's own example. -/
theorem merge_fact (F:Nat) (hF:8300 < F):vary_Merge F [72,105,32,123,98,50,125,123,98,50,33,110,111,98,111,100,121,125] (S_VaryTable.mk fs2 (rows2 [] [123,97,125])) 0=some ([72,105,32,110,111,98,111,100,121],0):=by
  have h:=merge_gen F [72,105,32,123,98,50,125,123,98,50,33,110,111,98,111,100,121,125] (rows2 [] [123,97,125]) 0 [[120],[]] rfl rfl (pe_two (by simp) (by simp)) (fine_two (by simp) (by simp)) (by simp [rows2]) hF
  rw [show ((0:Nat):Int)=0 from rfl] at h
  rw [h]
  decide +kernel
/-- Merge of the law's table against the reference. -/
theorem merge_law (F:Nat) (s r0 r1:List UInt8) (h0:r0.length≤1000) (h1:r1.length≤1000) (hF:8300 < F) :
    vary_Merge F s (S_VaryTable.mk fs2 (rows2 r0 r1)) 1=(bif decide ((s.length:Int) > 8192) then some ([],2) else some (filled (MG [r0,r1] s [true] []))) ∧
    (s.length≤8192→ref3_Merged F s fs2 [r0,r1]=some (filled (MG [r0,r1] s [true] []))) :=
  ⟨merge_gen F s (rows2 r0 r1) 1 [r0,r1] rfl rfl (pe_two h0 h1) (fine_two h0 h1) (by simp [rows2]) hF,
   fun hs=>merged_eq F s [r0,r1] rfl (fun x hx=>by simp only [List.mem_cons,List.not_mem_nil,or_false] at hx; rcases hx with rfl | rfl <;> omega) hs (by omega)⟩
end Go.Vm.MrgG
