/-
  para.Hyphens: what is read of small data is small.
-/
import Derived.Test.YtbnneoaaeidenaaDoorParKe
import Derived.Test.YtbnneoaaeidenaaDoorParSm
namespace Go.Proofs.YtbnneoaaeidenaaDoor
open Go.ChangeShapes Go.WideShapes Go.ChangeAt Go.WideMaps Go.WideElems Go.RowKit Go.Vm Go.Vm.ParM
theorem text_small {H:Type} {en:TypeId×Value→H} {W:World} {n:Nat} {u:Value} {b:List UInt8} {d:DataW H} {p:List MemPlace} (h:DataW.trod en Tryd.prog W 0 (fun _=>true) true n 9 [u]=some (d,p)) (hr:RD (allS W) W (.str b) u):b.length≤Rows.uptoBulk d:=by
  obtain ⟨s,hc,hx,_⟩:=DataW.trod_string (by kernel_rfl) h
  have hd:d=.lit (.string s.data.toList):=by injection hx
  have hv':u=strOf b:=by simpa only [RFlat,RD] using hr
  subst hv'
  have hc':[strOf b]=[Value.string s]:=hc
  have hb:b=s.data.toList:=by
    injection hc' with hc' _
    injection hc' with hc'
    rw [← hc']
  rw [hb,hd]
  simp only [Rows.uptoBulk]
  omega
theorem texts_small {H:Type} {en:TypeId×Value→H} {W:World} {n:Nat} {u:Value} {a:List (List UInt8)} {x:DataW H×List MemPlace} (h:DataW.trod en Tryd.prog W 0 (fun _=>true) true n 22 [u]=some x)
    (hr:RD (allS W) W (.sl 1 (a.map cS)) u):∀ w∈a,w.length≤Rows.uptoBulk x.1:=by
  intro w hw
  obtain ⟨i,hi,rfl⟩:=List.getElem_of_mem hw
  simp only [RD] at hr
  rcases DataW.trod_slice (e:=9) (by kernel_rfl) h with ⟨hn,rfl⟩ | ⟨ad,len,cap,elems,rest,m,_,hs,rfl,_,hlc,_,hlen,hel,_⟩
  · have hw':u=.slice none 0 0:=by simpa using hn
    subst hw'
    rcases hr with ⟨_,he⟩ | ⟨b,off,c,arr,E,fz,he,_⟩
    · have:a=[]:=by simpa using he
      subst this
      simp at hi
    · cases he
  · have hw':u=.slice (some ad) len cap:=by simpa using hs
    subst hw'
    rcases hr with ⟨_,he⟩ | ⟨b,off,c,arr,E,fz,he,_,_,hb,hrs⟩
    · have:a=[]:=by simpa using he
      subst this
      simp at hi
    · simp only [Value.slice.injEq,List.length_map] at he
      obtain ⟨hA,hL,_⟩:=he
      cases hA
      have h1:=hel i (by omega)
      have c9:Tryd.prog.cellsOf 9=1:=by kernel_rfl
      rw [List.getElem?_eq_getElem (by omega),Option.bind_eq_some_iff,c9] at h1
      obtain ⟨cs,h2,h3⟩:=h1
      obtain ⟨hcl,_,arr',E',fz',hb',hg⟩:=cells_at h2 (by decide)
      have hadd:(⟨b,off,none⟩:Addr).add (i * 1)=⟨b,off+i * 1,none⟩:=by
        simp only [Addr.add]
        split
        · rename_i h0; rw [h0]; rfl
        · rfl
      rw [hadd] at hb' hg
      simp only at hb' hg
      rw [hb] at hb'
      cases hb'
      obtain ⟨_,hrc⟩:=REs.get _ off i (cS a[i]) hrs (by rw [List.getElem?_map,List.getElem?_eq_getElem hi]; rfl)
      have hrc':RCs (allS W) W (cS a[i]) (fun j=>cs[j]?) 0:=RCs.congr _ _ 0 (fun j hj=>by rw [Nat.zero_add]; exact (hg j (by simpa [cS] using hj)).symm) hrc
      simp only [cS,RCs,and_true] at hrc'
      obtain ⟨u0,h0,r0⟩:=hrc'
      have hcs:cs=[u0]:=by
        match cs,hcl,h0 with
        | [y],_,h0 =>
          have:some y=some u0:=h0
          cases this
          rfl
      subst hcs
      have:=text_small (d:=elems[i].1) (p:=elems[i].2) h3 r0
      have hm:=bulkAll_mem (elems.map (·.1)) elems[i].1 (List.mem_map.2 ⟨elems[i],List.getElem_mem (by omega),rfl⟩)
      simp only [Rows.uptoBulk]
      omega
theorem small_args2 {H:Type} {en:TypeId×Value→H} {W:World} {args:List Value} {ds:List (DataW H)} {ps:List MemPlace} (b:List UInt8×List (List UInt8)×Unit) (h:DataW.TrodAll en Tryd.prog W 0 (fun _=>true) true [9,22] args ds ps)
    (hr:All2 (fun _ a u=>RFlat (allS W) W (fun _=>.bool false) (0,0) a u) 0 [.d (.str b.1),.d (.sl 1 (b.2.1.map cS))] args) (hK:Rows.uptoSmall H (ds++[])=true):b.1.length≤1048576∧∀ w∈b.2.1,w.length≤1048576:=by
  match args,ds,h,hr with
  | v1 :: v2 :: vs,d1 :: d2 :: ds,h,hr =>
    obtain ⟨p,q,⟨n,h1⟩,h⟩:=h
    simp only [All2] at hr
    have hrd1:RD (allS W) W (.str b.1) v1:=hr.1
    have hrd:RD (allS W) W (.sl 1 (b.2.1.map cS)) v2:=hr.2.1
    obtain ⟨⟨p2,q2,⟨n2,h2⟩,_⟩,_⟩:=h
    have hcell1:v1.cells.toList=[v1]:=by
      have hv':v1=strOf b.1:=by simpa only [RFlat,RD] using hrd1
      rw [hv']
      rfl
    have hcell:v2.cells.toList=[v2]:=by
      simp only [RD] at hrd
      rcases hrd with ⟨⟨q,rfl⟩,_⟩ | ⟨_,_,_,_,_,_,rfl,_⟩ <;> rfl
    rw [hcell1] at h1
    rw [hcell] at h2
    have e1:=text_small h1 hrd1
    simp only [Rows.uptoSmall,decide_eq_true_eq,List.append_nil,Rows.uptoBulkAll] at hK
    refine ⟨by omega,fun w hw=>?_⟩
    have e2:=texts_small h2 hrd w hw
    simp only at e2
    omega
end Go.Proofs.YtbnneoaaeidenaaDoor
