/-
  R.Object's walk by hand: given (function 23) turns the stack's top.
-/
import Derived.Test.YtldmbabgcdmjcaaGreatDoorObjRg
namespace Go.Vm.ObjR
open Go.Proofs
open Go.RowKit
theorem yP (r:List Fm) (ys:List Value) (j:Nat) (u:Value):(r.flatMap Fm.cells++ys).set (r.length * 7+j) u=r.flatMap Fm.cells++ys.set j u:=by
 rw [List.set_append,if_neg (by rw [kS]; omega),kS]
 congr 2
 omega
theorem aL8 (r:List Fm) (f:Fm):(r++[f]).flatMap Fm.cells=r.flatMap Fm.cells++f.cells:=by rw [List.flatMap_append,List.flatMap_singleton]
/-- An object that was read out of a list or a dictionary: its value. -/
def OV.val (o:OV):Value:=.agg #[.int .i64 o.z0,.int .i64 o.z1,.string o.s2,.slice o.q3 o.l3 o.p3,.slice o.q4 o.l4 o.p4]
/-- A pair is put in. -/
def bV8 (f:Fm) (x:List Dat):Fm:={ f with keys:=f.keys.take (kP f.keys f.key)++f.key :: f.keys.drop (kP f.keys f.key),kids:=f.kids.take (kP f.keys f.key)++x :: f.kids.drop (kP f.keys f.key),has:=false }
section
variable {lo:Nat} {D:Nat→Prop} {w:World} {v:Value} {r:List Fm} {f:Fm} {x:List Dat} {o:OV}
theorem aU8 (h:Stk 9 lo D w v (r++[f])) (hk:f.kind=6) (hs:∀ y∈f.kids,aV2 y) (hx:RCs D w x (fun j=>o.cells[j]?) 0) (hx5:aV2 x) (hkb:f.kids.length+1≤1000000) (hnb:r.length≤1000000) (hlo:lo≤w.heap.size) :
  Calls Tryz.prog 23 #[v,o.val] w fun e w'=>e=.returned (.tuple #[])∧∃ dv',Stk 9 lo D w' v (r++[{ f with kids:=f.kids++[x],dv:=dv' }])∧Below lo w w':=by
 obtain ⟨g,cap,cur,rfl,q2,q3,q4,q5,c0,c1,c2,c3,c4,c5,c6⟩:=h.top
 have hfm:f∈r++[f]:=by simp
 obtain ⟨ovs,hown,hka⟩:=qR.cK3 (h.each f hfm).2 hs
 have ne1:f.dv.ownBlock≠some g:=fun e=>h.a1 f hfm g rfl (.inr e)
 have ne2:f.kv.ownBlock≠some g:=fun e=>h.a1 f hfm g rfl (.inl e)
 refine (bP7 q3 rfl q4 (by rw [hk] at c0; exact c0) c4 hown ne1 hkb hnb hlo q2).mono ?_
 rintro e w' ⟨gg,cp,rfl,r1,r2,r3,r4,r5⟩
 have hDa:Agree D w w':=fun b hb=>r4 b (h.inD b hb).2 (fun e=>h.nov b (by rw [e]; rfl) hb) (fun e=>h.nof f hfm b (.inr e.symm) hb)
 have hrow0:=h.row
 rw [List.length_append,List.length_singleton] at hrow0
 refine ⟨rfl,.slice (some ⟨gg,0,none⟩) (f.kids.length+1) cp,Stk.cK5 h ?_ ?_ ?_ (fun b hb=>hb) (fun b hb=>.inl hb) (fun b hb=>?_) (fun b hb hb'=>?_) (fun b hb hv hf=>?_) r5.size,r5⟩
 ·have:=cG5 hrow0 q3 (by omega) r3
  rw [aL8,yP] at this
  exact this
 ·exact (h.each f hfm).1.congr (fun _ h=>h) hDa fun b hb=>r4 b ((h.each f hfm).1.lt b hb).2 (fun e=>by subst e; exact ne2 hb) fun e=>h.a3 f hfm b hb e.symm
 ·have h2:=(hka.mono hDa).insert (RCs.mono (fun _ h=>h) hDa x _ _ hx) (Nat.le_refl _)
  rw [List.take_length,List.drop_length] at h2
  rw [hka.len,List.take_length,List.drop_length] at h2
  refine h2.own (n:=f.kids.length+1) ?_ fun y hy=>?_
  ·rw [List.flatMap_append,List.flatMap_singleton]
   exact r1
  ·rcases List.mem_append.1 hy with hy | hy
   ·exact hs y hy
   ·rw [List.mem_singleton.1 hy]
    exact hx5
 ·cases hb
  exact r2
 ·cases hb'
  rcases r2 with e | e
  ·exact h.a3 f hfm _ hb e
  ·exact absurd ((h.each f hfm).1.lt _ hb).2 (Nat.not_lt.2 e)
 ·exact r4 b hb (fun e=>hv (by rw [e]; rfl)) fun e=>hf (.inr e.symm)
theorem aT9 (h:Stk 9 lo D w v (r++[f])) (hk:f.kind=7) (hs:∀ y∈f.kids,aV2 y) (hl:f.keys.length=f.kids.length) (hx:RCs D w x (fun j=>o.cells[j]?) 0) (hx5:aV2 x) (hkb:f.kids.length+1≤1000000) (hnb:r.length≤1000000) (hlo:lo≤w.heap.size) :
  Calls Tryz.prog 23 #[v,o.val] w fun e w'=>e=.returned (.tuple #[])∧∃ kv' dv',Stk 9 lo D w' v (r++[{ bV8 f x with kv:=kv',dv:=dv' }])∧Below lo w w':=by
 obtain ⟨g,cap,cur,rfl,q2,q3,q4,q5,c0,c1,c2,c3,c4,c5,c6⟩:=h.top
 have hfm:f∈r++[f]:=by simp
 obtain ⟨ovs,hown,hka⟩:=qR.cK3 (h.each f hfm).2 hs
 have hkey:=cR0 (h.each f hfm).1
 rw [hl] at hkey
 have ne1:f.dv.ownBlock≠some g:=fun e=>h.a1 f hfm g rfl (.inr e)
 have ne2:f.kv.ownBlock≠some g:=fun e=>h.a1 f hfm g rfl (.inl e)
 refine (bP0 q3 rfl q4 (by rw [hk] at c0; exact c0) c3 c4 c5 hkey hown ne2 ne1 (h.a3 f hfm) hkb hnb hlo q2).mono ?_
 rintro e w' ⟨rfl,kb,kc,db,dc,w0,hD,rfl⟩
 have hold:∀ b,b≠g→(w0.setCell ⟨g,r.length * 7+6,none⟩ (.bool false)).heap[b]? = w0.heap[b]? := fun b hb=>Below.heap_setCell _ _ _ _ hb
 have hkeep:∀ b,b < w.heap.size→b≠g→some b≠f.kv.ownBlock→some b≠f.dv.ownBlock→(w0.setCell ⟨g,r.length * 7+6,none⟩ (.bool false)).heap[b]? = w.heap[b]? := fun b hb hg h1 h2=>(hold b hg).trans (hD.keep b hb hg h1 h2)
 have hDa:Agree D w (w0.setCell ⟨g,r.length * 7+6,none⟩ (.bool false)):=fun b hb=>hkeep b (h.inD b hb).2 (fun e=>h.nov b (by rw [e]; rfl) hb) (fun e=>h.nof f hfm b (.inl e.symm) hb) (fun e=>h.nof f hfm b (.inr e.symm) hb)
 have hrow0:=h.row
 rw [List.length_append,List.length_singleton] at hrow0
 have hbel:Below lo w (w0.setCell ⟨g,r.length * 7+6,none⟩ (.bool false)):=hD.below.setCell q2 _
 refine ⟨rfl,.slice (some ⟨kb,0,none⟩) (f.kids.length+1) kc,.slice (some ⟨db,0,none⟩) (f.kids.length+1) dc,Stk.cK5 h ?_ ?_ ?_ (fun b hb=>hb) (fun b hb=>?_) (fun b hb=>?_) (fun b hb hb'=>?_) (fun b hb hv hf=>?_) hbel.size,hbel⟩
 ·have o1:=iL (u:=.bool false) (j:=r.length * 7+6) (iL (u:=.slice (some ⟨db,0,none⟩) (f.kids.length+1) dc) (j:=r.length * 7+4) (iL (u:=.slice (some ⟨kb,0,none⟩) (f.kids.length+1) kc) (j:=r.length * 7+3) hrow0 (by omega)) (by omega)) (by omega)
  rw [aL8,yP,yP,yP] at o1
  refine jD o1 fun b hb=>?_
  cases hb
  exact (fK hD.row).trans (fK (fK (fK q3))).symm
 ·exact cN5 (jD hD.ok fun b hb=>hold b (by cases hb; exact hD.kg))
 ·have hp:kP f.keys f.key≤f.kids.length:=by rw [← hl]; exact aR0 _ _
  refine ((hka.mono hDa).insert (RCs.mono (fun _ h=>h) hDa x _ _ hx) hp).own (n:=f.kids.length+1) (jD hD.od fun b hb=>hold b (by cases hb; exact hD.dg)) fun y hy=>?_
  rcases List.mem_append.1 hy with hy | hy
  ·exact hs y (List.mem_of_mem_take hy)
  ·rcases List.mem_cons.1 hy with rfl | hy
   ·exact hx5
   ·exact hs y (List.mem_of_mem_drop hy)
 ·cases hb
  exact hD.kfrom
 ·cases hb
  exact hD.dfrom
 ·cases hb
  cases hb'
  exact hD.kd rfl
 ·exact hkeep b hb (fun e=>hv (by rw [e]; rfl)) (fun e=>hf (.inl e.symm)) fun e=>hf (.inr e.symm)
/-- A key is set. -/
theorem Stk.bS7 {g cap:Nat} (h:Stk 9 lo D w (.slice (some ⟨g,0,none⟩) (r.length+1) cap) (r++[f])) (key:List UInt8) (b:Bool):Stk 9 lo D ((w.setCell ⟨g,r.length * 7+5,none⟩ (strOf key)).setCell ⟨g,r.length * 7+6,none⟩ (.bool b)) (.slice (some ⟨g,0,none⟩) (r.length+1) cap) (r++[{ f with key:=key,has:=b }]):=by
 have hfm:f∈r++[f]:=by simp
 have hrow0:=h.row
 rw [List.length_append,List.length_singleton] at hrow0
 have hold:∀ c,c≠g→((w.setCell ⟨g,r.length * 7+5,none⟩ (strOf key)).setCell ⟨g,r.length * 7+6,none⟩ (.bool b)).heap[c]? = w.heap[c]? := fun c hc=>(Below.heap_setCell _ _ _ _ hc).trans (Below.heap_setCell _ _ _ _ hc)
 have hDa:Agree D w ((w.setCell ⟨g,r.length * 7+5,none⟩ (strOf key)).setCell ⟨g,r.length * 7+6,none⟩ (.bool b)):=fun c hc=>hold c fun e=>h.nov c (by rw [e]; rfl) hc
 have o1:=iL (u:=.bool b) (j:=r.length * 7+6) (iL (u:=strOf key) (j:=r.length * 7+5) hrow0 (by omega)) (by omega)
 rw [aL8,yP,yP] at o1
 refine Stk.cK5 h o1 ((h.each f hfm).1.congr (fun _ h=>h) hDa fun c hc=>hold c fun e=>?_) ((h.each f hfm).2.congr (fun _ h=>h) hDa fun c hc=>hold c fun e=>?_) (fun _ h=>h) (fun c hc=>.inl hc) (fun c hc=>.inl hc) (h.a3 f hfm) (fun c _ hv _=>hold c fun e=>hv (by rw [e]; rfl)) ?_
 ·exact h.a1 f hfm g rfl (.inl (by rw [← e]; exact hc))
 ·exact h.a1 f hfm g rfl (.inr (by rw [← e]; exact hc))
 ·simp [World.setCell]
end
end Go.Vm.ObjR
