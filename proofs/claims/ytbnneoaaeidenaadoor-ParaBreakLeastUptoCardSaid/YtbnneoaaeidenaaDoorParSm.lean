/-
  para.Break: what is read of small data is small.
-/
import Derived.Test.YtbnneoaaeidenaaDoorParLa
import Derived.Test.YtbnneoaaeidenaaDoorVmD
import Derived.Test.YtbnneoaaeidenaaDoorRows
namespace Go.Proofs.YtbnneoaaeidenaaDoor
open Go.ChangeShapes Go.WideShapes Go.ChangeAt Go.WideMaps Go.WideElems Go.RowKit Go.Vm Go.Vm.ParM
theorem bulkAll_len {H:Type}:∀ l:List (DataW H),l.length≤Rows.uptoBulkAll l
  | []=>Nat.zero_le _
  | d :: r=>by
    have h1:=bulkAll_len r
    have h2:1≤Rows.uptoBulk d:=by
      unfold Rows.uptoBulk
      split <;> omega
    simp only [Rows.uptoBulkAll,List.length_cons]
    omega
theorem bulkAll_mem {H:Type}:∀ (l:List (DataW H)) (d:DataW H),d∈l→Rows.uptoBulk d≤Rows.uptoBulkAll l
  | x :: r,d,h=>by
    simp only [Rows.uptoBulkAll]
    rcases List.mem_cons.1 h with rfl | h
    · omega
    · have:=bulkAll_mem r d h
      omega
theorem row_small {H:Type} {en:TypeId×Value→H} {W:World} {n:Nat} {t e:TypeId} {u:Value} {sz:Nat} {es:List (List Dat)} {x:DataW H×List MemPlace} (ht:Tryd.prog.underlying t=some (.slice e)) (h:DataW.trod en Tryd.prog W 0 (fun _=>true) true n t [u]=some x)
    (hr:RD (allS W) W (.sl sz es) u):es.length≤Rows.uptoBulk x.1:=by
  simp only [RD] at hr
  rcases DataW.trod_slice ht h with ⟨hn,rfl⟩ | ⟨ad,len,cap,elems,rest,_,_,hs,rfl,_,_,_,hlen,_⟩
  · have hw':u=.slice none 0 0:=by simpa using hn
    subst hw'
    rcases hr with ⟨_,he⟩ | ⟨b,off,c,arr,E,fz,he,_⟩
    · rw [he]
      simp
    · cases he
  · have hw':u=.slice (some ad) len cap:=by simpa using hs
    subst hw'
    have hle:=bulkAll_len (elems.map (·.1))
    simp only [Rows.uptoBulk,List.length_map] at hle ⊢
    rcases hr with ⟨_,he⟩ | ⟨b,off,c,arr,E,fz,he,_⟩
    · rw [he]
      simp
    · simp only [Value.slice.injEq] at he
      omega
theorem word_small {H:Type} {en:TypeId×Value→H} {W:World} {n:Nat} {cs:List Value} {p:S_ParaWord} {x:DataW H×List MemPlace} (h:DataW.trod en Tryd.prog W 0 (fun _=>true) true n 45 cs=some x)
    (hr:RCs (allS W) W (cS_ParaWord p) (fun j=>cs[j]?) 0):p.f0.length≤Rows.uptoBulk x.1∧p.f1.length≤Rows.uptoBulk x.1:=by
  simp only [cS_ParaWord,cL,List.cons_append,List.nil_append,RCs,and_true] at hr
  obtain ⟨⟨u0,h0,r0⟩,⟨u1,h1,r1⟩⟩:=hr
  obtain ⟨xs,m,_,rfl,hcl,hxl,hf⟩:=DataW.trod_struct Tryd.underlying45 h
  have c24:Tryd.prog.cellsOf 24=1:=by kernel_rfl
  have key:∀ (j:Nat) (u:Value),cs[j]? = some u→(cs.drop j).take 1=[u]:=fun j u hu=>by
    rw [List.take_one,List.head?_drop,hu]
    rfl
  have e0:=hf 0 _ rfl
  have e1:=hf 1 _ rfl
  have l0:0 < xs.length:=by rw [hxl]; decide
  have l1:1 < xs.length:=by rw [hxl]; decide
  have t0:DataW.trod en Tryd.prog W 0 (fun _=>true) true m 24 [u0]=some xs[0]:=by
    rw [List.getElem?_eq_getElem l0] at e0
    rw [← e0]
    have:((cs.drop 0).take (Tryd.prog.cellsOf 24))=[u0]:=by rw [c24]; exact key 0 u0 h0
    exact (congrArg (DataW.trod en Tryd.prog W 0 (fun _=>true) true m 24) this).symm
  have t1:DataW.trod en Tryd.prog W 0 (fun _=>true) true m 24 [u1]=some xs[1]:=by
    rw [List.getElem?_eq_getElem l1] at e1
    rw [← e1]
    have:((cs.drop 1).take (Tryd.prog.cellsOf 24))=[u1]:=by rw [c24]; exact key 1 u1 h1
    exact (congrArg (DataW.trod en Tryd.prog W 0 (fun _=>true) true m 24) this).symm
  have b0:=row_small (e:=3) (by kernel_rfl) t0 r0
  have b1:=row_small (e:=3) (by kernel_rfl) t1 r1
  have m0:=bulkAll_mem (xs.map (·.1)) xs[0].1 (List.mem_map.2 ⟨xs[0],List.getElem_mem l0,rfl⟩)
  have m1:=bulkAll_mem (xs.map (·.1)) xs[1].1 (List.mem_map.2 ⟨xs[1],List.getElem_mem l1,rfl⟩)
  simp only [List.length_map] at b0 b1
  simp only [Rows.uptoBulk]
  omega
theorem words_small {H:Type} {en:TypeId×Value→H} {W:World} {n:Nat} {u:Value} {a:List S_ParaWord} {x:DataW H×List MemPlace} (h:DataW.trod en Tryd.prog W 0 (fun _=>true) true n 30 [u]=some x)
    (hr:RD (allS W) W (.sl 2 (a.map cS_ParaWord)) u):∀ w∈a,w.f0.length≤Rows.uptoBulk x.1∧w.f1.length≤Rows.uptoBulk x.1:=by
  intro w hw
  obtain ⟨i,hi,rfl⟩:=List.getElem_of_mem hw
  simp only [RD] at hr
  rcases DataW.trod_slice (e:=45) (by kernel_rfl) h with ⟨hn,rfl⟩ | ⟨ad,len,cap,elems,rest,m,_,hs,rfl,_,hlc,_,hlen,hel,_⟩
  · have hw':u=.slice none 0 0:=by simpa using hn
    subst hw'
    rcases hr with ⟨_,he⟩ | ⟨b,off,c,arr,E,fz,he,_⟩
    · have:a=[]:=by simpa using he
      subst this
      simp at hi
    · cases he
  · have hw':u=.slice (some ad) len cap:=by simpa using hs
    subst hw'
    rcases hr with ⟨_,he⟩ | ⟨b,off,c,arr,E,fz,he,_,_,hb,hrs⟩
    · have:a=[]:=by simpa using he
      subst this
      simp at hi
    · simp only [Value.slice.injEq,List.length_map] at he
      obtain ⟨hA,hL,_⟩:=he
      cases hA
      have h1:=hel i (by omega)
      have c45:Tryd.prog.cellsOf 45=2:=by kernel_rfl
      rw [List.getElem?_eq_getElem (by omega),Option.bind_eq_some_iff,c45] at h1
      obtain ⟨cs,h2,h3⟩:=h1
      obtain ⟨_,_,arr',E',fz',hb',hg⟩:=cells_at h2 (by decide)
      have hadd:(⟨b,off,none⟩:Addr).add (i * 2)=⟨b,off+i * 2,none⟩:=by
        simp only [Addr.add]
        split
        · rename_i h0; rw [h0]; rfl
        · rfl
      rw [hadd] at hb' hg
      simp only at hb' hg
      rw [hb] at hb'
      cases hb'
      obtain ⟨_,hrc⟩:=REs.get _ off i (cS_ParaWord a[i]) hrs (by rw [List.getElem?_map,List.getElem?_eq_getElem hi]; rfl)
      have hrc':RCs (allS W) W (cS_ParaWord a[i]) (fun j=>cs[j]?) 0:=RCs.congr _ _ 0 (fun j hj=>by rw [Nat.zero_add]; exact (hg j (by simpa [cS_ParaWord,cL] using hj)).symm) hrc
      have:=word_small h3 hrc'
      have hm:=bulkAll_mem (elems.map (·.1)) elems[i].1 (List.mem_map.2 ⟨elems[i],List.getElem_mem (by omega),rfl⟩)
      simp only [Rows.uptoBulk]
      omega
theorem small_args {H:Type} {en:TypeId×Value→H} {W:World} {args:List Value} {ds:List (DataW H)} {ps:List MemPlace} (b:List S_ParaWord×S_ParaShape×Unit) (h:DataW.TrodAll en Tryd.prog W 0 (fun _=>true) true [30,32] args ds ps)
    (hr:All2 (fun _ a u=>RFlat (allS W) W (fun _=>.bool false) (0,0) a u) 0 [.d (.sl 2 (b.1.map cS_ParaWord)),.agg (cS_ParaShape b.2.1)] args) (hK:Rows.uptoSmall H (ds++[])=true):∀ w∈b.1,w.f0.length≤1048576∧w.f1.length≤1048576:=by
  match args,ds,h,hr with
  | v1 :: v2 :: vs,d1 :: d2 :: ds,h,hr =>
    obtain ⟨p,q,⟨n,h1⟩,_⟩:=h
    simp only [All2] at hr
    intro w hw
    have hrd:RD (allS W) W (.sl 2 (b.1.map cS_ParaWord)) v1:=hr.1
    have hcell:v1.cells.toList=[v1]:=by
      simp only [RD] at hrd
      rcases hrd with ⟨⟨q,rfl⟩,_⟩ | ⟨_,_,_,_,_,_,rfl,_⟩ <;> rfl
    rw [hcell] at h1
    have e1:=words_small h1 hrd w hw
    simp only [Rows.uptoSmall,decide_eq_true_eq,List.append_nil,Rows.uptoBulkAll] at hK
    simp only at e1
    omega
end Go.Proofs.YtbnneoaaeidenaaDoor
