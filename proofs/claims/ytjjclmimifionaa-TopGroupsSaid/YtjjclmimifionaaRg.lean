/-
  The vector at a cell of a list,by hand.
-/
import Derived.Test.YtjjclmimifionaaRf
import Derived.Test.YtjjclmimifionaaPb
namespace Go.Vm.TopG
open Go.Proofs
open Go.RowKit
theorem list_flat {S:Nat→Prop} {W:World} {β:Path→Value} {p:Path} {a0:S_List} {u2 u3:Value} (h2:RD S W (.sl 1 (a0.f2.map cS)) u2) (h3:RD S W (.sl 34 (a0.f3.map cS_Item)) u3):RFlat S W β p (.agg (cS_List a0)) (.agg #[.int .i64 a0.f0,.int .i64 a0.f1,u2,u3]) :=
 ⟨_,rfl,rfl,⟨_,rfl,rfl,rfl⟩,⟨_,rfl,rfl,rfl⟩,⟨_,rfl,h2⟩,⟨_,rfl,h3⟩,trivial⟩
theorem Check_at (W:World) {S:Nat→Prop} (hS:∀ b,S b→b < W.heap.size) {F:Nat} {a0:S_List} {u2 u3:Value} (h2:RD S W (.sl 1 (a0.f2.map cS)) u2) (h3:RD S W (.sl 34 (a0.f3.map cS_Item)) u3) {r:Int} (h:list_Check F a0=some r) :
  Calls Try.prog 6 #[.agg #[.int .i64 a0.f0,.int .i64 a0.f1,u2,u3]] W fun e W'=>e=.returned (.int .i64 r)∧Below W.heap.size W W':=by
 refine (belowS (us:=[.agg #[.int .i64 a0.f0,.int .i64 a0.f1,u2,u3]]) (list_Check_ok h) rfl (show 1 < resSlot by decide) rfl hS ⟨list_flat h2 h3,trivial⟩).mono ?_
 rintro e W' ⟨v,S',β',rfl,hg⟩
 have:v=.int .i64 r:=int_res hg.val
 exact ⟨by rw [this],hg.below⟩
theorem ink_one_at {w:World} {b:Nat} (h:w.heap[b]? = some (.cells z8 35 (0,0))) (v:S_Inks):(Instr.storeAt 35 (.pointer (some ⟨b,0,none⟩)) (inkV v)).run Try.prog w=.ok () (w.setRow b (inkA v))∧(w.setRow b (inkA v)).heap[b]? = some (.cells (inkA v) 35 (0,0)) :=
 ⟨store_at (ty:=35) (n:=8) (by kernel_rfl) (cs:=inkA v) rfl h rfl (inkA_one _),setRow_get h⟩
theorem at_cases {F:Nat} {a0:S_List} {x y:Int} {r:S_Inks×Int} (h:atF F a0 x y=some r):∃ ec,list_Check F a0=some ec∧((ec≠0∧r=(ink0,ec))∨(ec=0∧(x < 0∨wrap64 (16 * a0.f0)≤x∨y < 0∨wrap64 (16 * a0.f1)≤y)∧r=(ink0,3)) ∨
  (ec=0∧¬ (x < 0∨wrap64 (16 * a0.f0)≤x∨y < 0∨wrap64 (16 * a0.f1)≤y)∧∃ x0 ms rw,treeF a0.f3 [(item0,[])]=some [(x0,ms)]∧a0.f3.length≤1000000∧a0.f2.length≤8∧a0.f3.all (itemOk F)=true∧0≤x∧x≤1000000∧0≤y∧y≤1000000∧rowF F ms a0.f2.length y x (x+1)=some rw∧r=(rw.getD 0 ink0,0))):=by
 unfold atF at h
 obtain ⟨ec,hec,h⟩:=call_ok h
 refine ⟨ec,hec,?_⟩
 by_cases h0:ec=0
 ·subst h0
  simp only [bne_self_eq_false,cond_false,show ∀ z,IntKind.i64.wrap z=wrap64 z from fun z=>wrap64_eq z] at h
  by_cases hb:(decide (x < 0) || (decide (x ≥ wrap64 (16 * a0.f0)) || (decide (y < 0) || decide (y ≥ wrap64 (16 * a0.f1)))))=true
  ·rw [hb,cond_true] at h
   cases h
   exact .inr (.inl ⟨rfl,by simpa using hb,rfl⟩)
  ·rw [show (decide (x < 0) || (decide (x ≥ wrap64 (16 * a0.f0)) || (decide (y < 0) || decide (y ≥ wrap64 (16 * a0.f1)))))=false by simpa using hb,cond_false] at h
   obtain ⟨tz,htz,h⟩:=call_ok h
   split at h
   ·obtain ⟨hck,h⟩:=chk_ok h
    obtain ⟨rw_,hrw,h⟩:=call_ok h
    cases h
    obtain ⟨hlo,hx0,hx1,hy0,hy1⟩:=hck
    unfold listOk at hlo
    simp only [Bool.and_eq_true,decide_eq_true_eq] at hlo
    exact .inr (.inr ⟨rfl,by simpa using hb,_,_,_,htz,hlo.1.1,hlo.1.2,hlo.2,hx0,hx1,hy0,hy1,hrw,rfl⟩)
   ·cases h
 ·rw [show (ec != 0)=true by simpa using h0,cond_true] at h
  exact .inl ⟨h0,(Option.some.inj h).symm⟩
set_option maxRecDepth 100000 in
set_option maxHeartbeats 4000000 in
theorem At9_at (W:World) {S:Nat→Prop} (hS:∀ b,S b→b < W.heap.size) {F:Nat} {a0:S_List} {u2 u3:Value} (h2:RD S W (.sl 1 (a0.f2.map cS)) u2) (h3:RD S W (.sl 34 (a0.f3.map cS_Item)) u3) {x y:Int} {r:S_Inks×Int} (h:atF F a0 x y=some r) :
  Calls Try.prog 9 #[.agg #[.int .i64 a0.f0,.int .i64 a0.f1,u2,u3],.int .i64 x,.int .i64 y] W fun e W'=>e=.returned (.tuple #[inkV r.1,.int .i64 r.2])∧Below W.heap.size W W':=by
 obtain ⟨ec,hec,h⟩:=at_cases h
 obtain ⟨e1,e2,e3⟩:=two_at W (.cells #[.int .i64 a0.f0,.int .i64 a0.f1,u2,u3] 25 (0,0)) (.cells z8 35 (0,0))
 have hS1:∀ b,S b→b < ((W.alloc (.cells #[.int .i64 a0.f0,.int .i64 a0.f1,u2,u3] 25 (0,0))).alloc (.cells z8 35 (0,0))).heap.size:=fun b hb=>Nat.lt_of_lt_of_le (hS b hb) e3.size
 have hag:Agree S W ((W.alloc (.cells #[.int .i64 a0.f0,.int .i64 a0.f1,u2,u3] 25 (0,0))).alloc (.cells z8 35 (0,0))):=fun b hb=>e3.block b (hS b hb)
 have HCK:=aside (Check_at _ hS1 (RD.mono (fun _ h=>h) hag _ _ h2) (RD.mono (fun _ h=>h) hag _ _ h3) hec)
 have hld:=load_whole (ty:=25) (n:=4) (by kernel_rfl) rfl e1
 have HE:=aside (And.intro e1 (And.intro e2 e3))
 have HA:=aside (And.intro hS (And.intro h2 h3))
 have HH:=aside h
 clear e1 e2 e3 hS1 hag hS h2 h3 h hec
 have hz:z8=#[.int .u8 0,.int .u8 0,.int .u8 0,.int .u8 0,.int .u8 0,.int .u8 0,.int .u8 0,.int .u8 0]:=rfl
 unfold z8 at hld HCK
 generalize hal:(#[.int .i64 a0.f0,.int .i64 a0.f1,u2,u3]:Array Value)=al at hld HCK ⊢
 go_enter Try.func9,Try.ntmps9
 go_wp2_with (first | ((with_reducible apply ld (ty:=25)); exact hld) | go_at_fn 6)
 refine HCK.out.mono ?_
 rintro e w1 ⟨rfl,hb⟩
 have HW:=aside (show w1.heap[W.heap.size]? = some (.cells al 25 (0,0))∧w1.heap[W.heap.size+1]? = some (.cells z8 35 (0,0))∧Below W.heap.size W w1 from by
  rw [hal] at HE
  unfold z8 at HE ⊢
  exact ⟨keep hb HE.out.1,keep hb HE.out.2.1,HE.out.2.2.trans (hb.mono HE.out.2.2.size)⟩)
 clear hb hld HCK HE h hz
 by_cases hec:ec=0
 ·subst hec
  have hc0:w1.cell? ⟨W.heap.size,0,none⟩=some (.int .i64 a0.f0):=by rw [cell_of HW.out.1,← hal]; rfl
  have hc1:w1.cell? ⟨W.heap.size,1,none⟩=some (.int .i64 a0.f1):=by rw [cell_of HW.out.1,← hal]; rfl
  have hh2:((x < 0∨wrap64 (16 * a0.f0)≤x∨y < 0∨wrap64 (16 * a0.f1)≤y)∧r=(ink0,3))∨¬ (x < 0∨wrap64 (16 * a0.f0)≤x∨y < 0∨wrap64 (16 * a0.f1)≤y):=by
   rcases HH.out with h | h | h
   ·exact absurd rfl h.1
   ·exact .inl ⟨h.2.1,h.2.2⟩
   ·exact .inr h.2.1
  have HH2:=aside hh2
  clear hh2
  by_cases hA:x < 0
  ·have HR:Aside (r=(ink0,3)):=aside (HH2.out.elim (·.2) fun h=>absurd (by first | exact .inl ‹_› | exact .inr (.inl ‹_›) | exact .inr (.inr (.inl ‹_›)) | exact .inr (.inr (.inr ‹_›))) h)
   have hb8:Try.prog.built 35 []=some (inkA ink0):=by kernel_rfl
   have hst:=(ink_one_at HW.out.2.1 ink0).1
   have K:=aside (And.intro (ink_one_at HW.out.2.1 ink0).2 (setRow_below (cs:=inkA ink0) HW.out.2.2 (Nat.le_succ _)))
   unfold inkV at hst
   revert hst K
   generalize w1.setRow (W.heap.size+1) (inkA ink0)=w2
   intro hst K
   have hR:=HR
   generalize hv0:inkA ink0=v0 at hst hb8 K
   go_wp2_with (first | ((with_reducible apply Go.Vm.st (ty:=35)); exact hst) | ((with_reducible apply bd (ty:=35)); exact hb8))
   exact ret_row2 6 7 35 8 (cs:=v0) (by kernel_rfl) (by kernel_rfl) (by rw [← hv0]; rfl) K.out.1 rfl rfl rfl ⟨by rw [hR.out,← hv0]; rfl,K.out.2⟩
  ·by_cases hB:wrap64 (16 * a0.f0)≤x
   ·have HR:Aside (r=(ink0,3)):=aside (HH2.out.elim (·.2) fun h=>absurd (by first | exact .inl ‹_› | exact .inr (.inl ‹_›) | exact .inr (.inr (.inl ‹_›)) | exact .inr (.inr (.inr ‹_›))) h)
    have hb8:Try.prog.built 35 []=some (inkA ink0):=by kernel_rfl
    have hst:=(ink_one_at HW.out.2.1 ink0).1
    have K:=aside (And.intro (ink_one_at HW.out.2.1 ink0).2 (setRow_below (cs:=inkA ink0) HW.out.2.2 (Nat.le_succ _)))
    unfold inkV at hst
    revert hst K
    generalize w1.setRow (W.heap.size+1) (inkA ink0)=w2
    intro hst K
    have hR:=HR
    generalize hv0:inkA ink0=v0 at hst hb8 K
    go_wp2_with (first | ((with_reducible apply Go.Vm.st (ty:=35)); exact hst) | ((with_reducible apply bd (ty:=35)); exact hb8))
    exact ret_row2 6 7 35 8 (cs:=v0) (by kernel_rfl) (by kernel_rfl) (by rw [← hv0]; rfl) K.out.1 rfl rfl rfl ⟨by rw [hR.out,← hv0]; rfl,K.out.2⟩
   ·by_cases hC:y < 0
    ·have HR:Aside (r=(ink0,3)):=aside (HH2.out.elim (·.2) fun h=>absurd (by first | exact .inl ‹_› | exact .inr (.inl ‹_›) | exact .inr (.inr (.inl ‹_›)) | exact .inr (.inr (.inr ‹_›))) h)
     have hb8:Try.prog.built 35 []=some (inkA ink0):=by kernel_rfl
     have hst:=(ink_one_at HW.out.2.1 ink0).1
     have K:=aside (And.intro (ink_one_at HW.out.2.1 ink0).2 (setRow_below (cs:=inkA ink0) HW.out.2.2 (Nat.le_succ _)))
     unfold inkV at hst
     revert hst K
     generalize w1.setRow (W.heap.size+1) (inkA ink0)=w2
     intro hst K
     have hR:=HR
     generalize hv0:inkA ink0=v0 at hst hb8 K
     go_wp2_with (first | ((with_reducible apply Go.Vm.st (ty:=35)); exact hst) | ((with_reducible apply bd (ty:=35)); exact hb8))
     exact ret_row2 6 7 35 8 (cs:=v0) (by kernel_rfl) (by kernel_rfl) (by rw [← hv0]; rfl) K.out.1 rfl rfl rfl ⟨by rw [hR.out,← hv0]; rfl,K.out.2⟩
    ·by_cases hD:wrap64 (16 * a0.f1)≤y
     ·have HR:Aside (r=(ink0,3)):=aside (HH2.out.elim (·.2) fun h=>absurd (by first | exact .inl ‹_› | exact .inr (.inl ‹_›) | exact .inr (.inr (.inl ‹_›)) | exact .inr (.inr (.inr ‹_›))) h)
      have hb8:Try.prog.built 35 []=some (inkA ink0):=by kernel_rfl
      have hst:=(ink_one_at HW.out.2.1 ink0).1
      have K:=aside (And.intro (ink_one_at HW.out.2.1 ink0).2 (setRow_below (cs:=inkA ink0) HW.out.2.2 (Nat.le_succ _)))
      unfold inkV at hst
      revert hst K
      generalize w1.setRow (W.heap.size+1) (inkA ink0)=w2
      intro hst K
      have hR:=HR
      generalize hv0:inkA ink0=v0 at hst hb8 K
      go_wp2_with (first | ((with_reducible apply Go.Vm.st (ty:=35)); exact hst) | ((with_reducible apply bd (ty:=35)); exact hb8))
      exact ret_row2 6 7 35 8 (cs:=v0) (by kernel_rfl) (by kernel_rfl) (by rw [← hv0]; rfl) K.out.1 rfl rfl rfl ⟨by rw [hR.out,← hv0]; rfl,K.out.2⟩
     ·obtain ⟨x0,ms,rw_,htz,hl1,hl2,hall,hx0,hx1,hy0,hy1,hrw,rfl⟩:∃ x0 ms rw,treeF a0.f3 [(item0,[])]=some [(x0,ms)]∧a0.f3.length≤1000000∧a0.f2.length≤8∧a0.f3.all (itemOk F)=true∧0≤x∧x≤1000000∧0≤y∧y≤1000000∧rowF F ms a0.f2.length y x (x+1)=some rw∧r=(rw.getD 0 ink0,0):=by
       rcases HH.out with h | h | h
       ·exact absurd rfl h.1
       ·exact absurd h.2.1 (fun hq=>hq.elim hA fun hq=>hq.elim hB fun hq=>hq.elim hC hD)
       ·exact h.2.2
      have hstk:=stk_ok a0.f3 0 _ _ hall (by omega) (fun p hp=>by obtain rfl:=List.mem_singleton.1 hp; exact ⟨trivial,Nat.le_refl _⟩) htz (x0,ms) (List.mem_singleton.2 rfl)
      have hs:StripOk x (x+1) 1:=⟨hx0,by omega,by omega,Nat.one_pos⟩
      have hlt1:∀ b,S b→b < w1.heap.size:=fun b hb=>Nat.lt_of_lt_of_le (HA.out.1 b hb) HW.out.2.2.size
      have hag1:Agree S W w1:=fun b hb=>HW.out.2.2.block b (HA.out.1 b hb)
      have HOF:=aside (of_at w1 hlt1 (F:=F) (a:=a0.f0) (b:=a0.f1) (RD.mono (fun _ h=>h) hag1 _ _ HA.out.2.1) (RD.mono (fun _ h=>h) hag1 _ _ HA.out.2.2) hall hl1 htz)
      rw [hal] at HOF
      have hld:=load_whole (ty:=25) (n:=4) (by kernel_rfl) (by rw [← hal]; rfl) HW.out.1
      have hw1:wrap64 (x+1)=x+1:=by unfold wrap64; omega
      have HX:=aside (And.intro hstk (And.intro hs (And.intro hl2 hrw)))
      have HW1:=aside hw1
      clear hstk hs hl1 hl2 hall hlt1 hag1 htz hrw hw1 HH HH2
      go_wp2_with (first | ((with_reducible apply ld (ty:=25)); exact hld) | go_at_fn 16)
      refine HOF.out.mono ?_
      rintro e w2 ⟨p,D,rfl,hb,hpg,hDl⟩
      have hlen8:=HX.out.2.2.1
      have HRO:=aside (row_at w2 hDl HX.out.2.1 hlen8 hpg HX.out.1.2 HX.out.1.1 HX.out.2.2.2)
      unfold ptr at HRO
      have HB2:=aside hb
      clear hb hpg hDl hld HOF
      have hw1:=HW1.out
      unfold ptr
      go_wp2_with (go_at_fn 17)
      refine HRO.out.mono ?_
      rintro e w3 ⟨rb,rfl,hb3,hin,hrl,hrn⟩
      obtain ⟨v,hv⟩:∃ v,rw_[0]? = some v:=⟨_,List.getElem?_eq_getElem (by omega)⟩
      have hld2:=hin.load hv
      rw [Nat.zero_mul] at hld2
      have h35:=keep hb3 (keep HB2.out HW.out.2.1)
      have hst:=(ink_one_at h35 v).1
      have K:=aside (And.intro (ink_one_at h35 v).2 (setRow_below (cs:=inkA v) ((HW.out.2.2.trans (HB2.out.mono HW.out.2.2.size)).trans (hb3.mono (Nat.le_trans HW.out.2.2.size HB2.out.size))) (Nat.le_succ _)))
      have HGET:=aside (fun (h:0 < rw_.length)=>(show rw_[0]'h=v from Option.some.inj ((List.getElem?_eq_getElem h).symm.trans hv)))
      unfold inkV at hst hld2
      revert hst K
      generalize w3.setRow (W.heap.size+1) (inkA v)=w4
      intro hst K
      clear hb3 hin h35 hv HRO
      generalize hv0:inkA v=v0 at hst hld2 K
      go_wp2_with (first | ((with_reducible apply Go.Vm.st (ty:=35)); exact hst) | ((with_reducible apply ld (ty:=35)); exact hld2))
      exact ret_row2 6 7 35 8 (cs:=v0) (u:=.int .i64 0) (by kernel_rfl) (by kernel_rfl) (by rw [← hv0]; rfl) K.out.1 rfl rfl rfl ⟨by rw [← hv0]; simp only [HGET.out]; rfl,K.out.2⟩
 ·have HR:Aside (r=(ink0,ec)):=by
   rcases HH.out with h | h | h
   ·exact aside h.2
   ·exact absurd h.1 hec
   ·exact absurd h.1 hec
  have hb8:Try.prog.built 35 []=some (inkA ink0):=by kernel_rfl
  have hst:=(ink_one_at HW.out.2.1 ink0).1
  have K:=aside (And.intro (ink_one_at HW.out.2.1 ink0).2 (setRow_below (cs:=inkA ink0) HW.out.2.2 (Nat.le_succ _)))
  unfold inkV at hst
  revert hst K
  generalize w1.setRow (W.heap.size+1) (inkA ink0)=w2
  intro hst K
  have hR:=HR
  generalize hv0:inkA ink0=v0 at hst hb8 K
  go_wp2_with (first | ((with_reducible apply Go.Vm.st (ty:=35)); exact hst) | ((with_reducible apply bd (ty:=35)); exact hb8))
  exact ret_row2 6 7 35 8 (cs:=v0) (by kernel_rfl) (by kernel_rfl) (by rw [← hv0]; rfl) K.out.1 rfl rfl rfl ⟨by rw [hR.out,← hv0]; rfl,K.out.2⟩
end Go.Vm.TopG
namespace Go.Vm.TopG
open Go.Proofs
open Go.RowKit
theorem list_At_ok {F:Nat} {a0:S_List} {a1 a2:Int} {r:S_Inks×Int} (h:list_At F a0 a1 a2=some r):ACall Try.prog 9 [.agg (cS_List a0),.d (.v (.int .i64 a1)),.d (.v (.int .i64 a2))] [] (.tup [.agg (cS_Inks r.1),.d (.v (.int .i64 r.2))]) []:=by
 unfold list_At at h
 refine ACall.ofReadsA ⟨_,Try.func9,by kernel_rfl,by kernel_rfl⟩ (fun j=>by rcases j with _ | _ | _ | j <;> rfl) (fun l a e=>by cases e) rfl ?_
 intro w S β us hus hS hrd
 match us,hus with
 | [a,b,c],_ =>
  obtain ⟨u2,u3,rfl,h2,h3⟩:=list_val (β:=β) (p:=(0,0)) (hrd 0 _ a rfl rfl)
  have hb:b=.int .i64 a1:=(hrd 1 _ b rfl rfl).1
  have hc:c=.int .i64 a2:=(hrd 2 _ c rfl rfl).1
  subst hb hc
  refine (At9_at w hS h2 h3 h).mono ?_
  rintro e w' ⟨rfl,hbw⟩
  exact ⟨_,rfl,hbw,fun β=>⟨[_,_],rfl,rfl,⟨⟨_,rfl,rfl,ints_flatS (k:=.u8) (inkL r.1) _ 0 rfl⟩,⟨rfl,rfl⟩,trivial⟩⟩⟩
end Go.Vm.TopG
