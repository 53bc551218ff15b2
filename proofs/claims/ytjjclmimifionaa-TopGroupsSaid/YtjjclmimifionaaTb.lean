/-
  The drawn regions of list.tree (printed by mkR30.py).
-/
import Derived.Test.YtjjclmimifionaaTa
namespace Go.Vm.TopG
open Go.Proofs
open Go.RowKit
theorem built105 {xs:Array Value} (h:xs.size=34) (a g m:Value) (ha:∃ k i,a=.int k i) (hg:∃ f x y,g=.func f x y) (hm:∃ f x y,m=.func f x y):Try.prog.built 105 [(0,.agg xs),(1,a),(2,g),(3,m)]=some (xs++#[a,g,m]):=by
 obtain ⟨x0,x1,x2,x3,x4,x5,x6,x7,x8,x9,x10,x11,x12,x13,x14,x15,x16,x17,x18,x19,x20,x21,x22,x23,x24,x25,x26,x27,x28,x29,x30,x31,x32,x33,rfl⟩:=arr34 h
 obtain ⟨k,i,rfl⟩:=ha
 obtain ⟨f,x,y,rfl⟩:=hg
 obtain ⟨f',x',y',rfl⟩:=hm
 kernel_rfl
theorem SrcD.func {F:Nat} {s:S_Source} {g:Value} {D:Nat→Prop} {w:World} (h:SrcD F s g D w):∃ f x y,g=.func f x y:=by
 obtain ⟨f,caps,e,_⟩:=h.2 w (Nat.le_refl _) fun _ _=>rfl
 exact ⟨_,_,_,e⟩
theorem MixD.func {F k:Nat} {g:Value} {D:Nat→Prop} {w:World} (h:MixD F k g D w):∃ f x y,g=.func f x y:=by
 obtain ⟨f,caps,e,_⟩:=h.2 w (Nat.le_refl _) fun _ _=>rfl
 exact ⟨_,_,_,e⟩
/-- The source's cells of an item's. -/
theorem src_of {D:Nat→Prop} {w:World} {x:S_Item} {xs:Array Value} (hn:xs.size=34) (h:RCs D w (cS_Item x) (fun j=>xs[j]?) 0):(xs.extract 2 29).size=27∧RCs D w (cS_Source x.f2) (fun j=>(xs.extract 2 29)[j]?) 0∧∀ j,j < 27→(xs.extract 2 29)[j]? = xs[2+j]? := by
 have he:∀ j,j < 27→(xs.extract 2 29)[j]? = xs[2+j]? := fun j hj=>by
  rw [Array.getElem?_extract,if_pos (by rw [hn]; omega)]
 refine ⟨by simp [hn],?_,he⟩
 have:=RCs.take _ _ 27 (RCs.drop _ 0 2 h)
 rw [item_src] at this
 refine RCs.congr _ _ _ (fun j hj=>?_) this
 have hj:j < 27:=hj
 rw [Nat.zero_add]
 exact he j hj
/-- One value is appended to an owned row of single cells. -/
theorem push_one {w:World} {lo n q:Nat} {v u:Value} {xs:List Value} (t ty e bytes:Nat) (z:Value) (ht:Try.prog.underlying t=some (.slice e)) (hi:(Try.prog.info? e).map (fun i=>(i.zero,i.size,i.bytes))=some (some z,1,bytes)) (hz:z.cells.size=1) (hown:w.ownsRow lo e 1 v n xs) (hc:w.cell? ⟨q,0,none⟩=some u) (hu:u.oneCell'=true) (hn:n≤1000000) (hb:bytes≤1000) (hlo:lo≤w.heap.size) :
  ∃ v' w',(Builtin.append_ #[t,t] ty #[v,.slice (some ⟨q,0,none⟩) 1 1]).run Try.prog w=.ok v' w'∧w'.ownsRow lo e 1 v' (n+1) (xs++[u])∧w.grownBy w' v.ownBlock∧(v'.ownBlock=v.ownBlock∨v'.ownBlock=some w.heap.size):=by
 obtain ⟨i,hq,h2⟩:=Option.map_eq_some_iff.1 hi
 simp only [Prod.mk.injEq] at h2
 have hmul:(n+1) * bytes≤1000001 * 1000:=Nat.mul_le_mul (by omega) hb
 obtain ⟨v',w',r1,r2,r3,-,r5⟩:=run_append_own_at (P:=Try.prog) w lo t ty e i z 1 bytes ht hq h2.1 h2.2.1 h2.2.2 hz (by decide) v n xs hown ⟨q,0,none⟩ 1 1 [u] rfl
  (fun j x hx=>by
   obtain rfl:j=0:=by have:=(List.getElem?_eq_some_iff.1 hx).1; simpa using this
   obtain rfl:u=x:=by simpa using hx
   exact hc) (fun x hx=>by obtain rfl:=List.mem_singleton.1 hx; exact hu) (by simp only [maxLen]; omega) (Nat.le_trans hmul (by decide)) hlo
 exact ⟨v',w',r1,r2,r3,r5⟩
theorem info108:(Try.prog.info? 108).map (fun i=>(i.zero,i.size,i.bytes))=some (some .nilIface,1,16):=by kernel_rfl
theorem info57:(Try.prog.info? 57).map (fun i=>(i.zero,i.size,i.bytes))=some (some (.pointer none),1,8):=by kernel_rfl
def oneTy (P:Program) (ty:TypeId):Bool:=match P.underlying ty with | some d => !d.isRow | none=>false
theorem load_one {ty b o:Nat} {w:World} {v:Value} (ht:oneTy Try.prog ty=true) (h:w.cell? ⟨b,o,none⟩=some v):(Instr.loadAt ty (.pointer (some ⟨b,o,none⟩))).run Try.prog w=.ok v w:=by
 unfold oneTy at ht
 split at ht
 ·rename_i d hd
  have hagg:(isAgg ty).run Try.prog w=.ok false w:=by
   unfold isAgg
   rw [Sem.run_bind,run_underlying hd w]
   cases d <;> simp_all
  simp [Instr.loadAt,Instr.sureAddr,loadVar,hagg,h]
 ·cases ht
def oneTyS (P:Program) (ty:TypeId):Bool:=(P.info? ty).map (·.size) == some 1
theorem store_one {ty b o:Nat} {w:World} {v old:Value} (ht:oneTyS Try.prog ty=true) (hc:w.cell? ⟨b,o,none⟩=some old) (hf:w.frozen? ⟨b,o,none⟩=false) (hv:v.oneCell'=true):(Instr.storeAt ty (.pointer (some ⟨b,o,none⟩)) v).run Try.prog w=.ok () (w.setCell ⟨b,o,none⟩ v):=by
 have hcs:v.cells=#[v]:=by cases v <;> first | rfl | simp [Value.oneCell'] at hv
 unfold oneTyS at ht
 cases hq:Try.prog.info? ty with
 | none=>simp [hq] at ht
 | some i =>
  have hs:i.size=1:=by simpa [hq] using ht
  have ha:(⟨b,o,none⟩:Addr).add 0=⟨b,o,none⟩:=by rw [Addr.add_mid]; rfl
  simp [Instr.storeAt,Instr.sureAddr,storeVar,hcs,sizeOf,typeInfo,hq,hs,storeCells,run_store Try.prog _ _ v _ hv,ha,hc,hf,Result.andThen]
theorem set36 {xs:Array Value} {a g m u:Value} (h:xs.size=34):(xs++#[a,g,m]).setIfInBounds 36 u=xs++#[a,g,u]:=by
 rw [Array.setIfInBounds_append_right (by omega),h]
 rfl
def newD (D:Nat→Prop) (w1 w:World) (b:Nat):Prop:=D b∨(w1.heap.size≤b∧b < w.heap.size)
theorem newD_lt {D:Nat→Prop} {w1 w:World} (hD:∀ b,D b→b < w1.heap.size) (hw:Below w1.heap.size w1 w) {b:Nat} (h:newD D w1 w b):b < w.heap.size:=h.elim (fun h=>Nat.lt_of_lt_of_le (hD b h) hw.size) fun h=>h.2
theorem SrcD.next {F:Nat} {s:S_Source} {g:Value} {D:Nat→Prop} {w1 w w':World} (h:SrcD F s g (newD D w1 w) w) (hw:Below w1.heap.size w1 w) (hb:Below w.heap.size w w') (hD:∀ b,D b→b < w1.heap.size):SrcD F s g (newD D w1 w') w' :=
 h.mono hb.size (fun b hn=>hb.block b (newD_lt hD hw hn)) (fun b hn=>hn.imp id fun h=>⟨h.1,Nat.lt_of_lt_of_le h.2 hb.size⟩) fun b hn=>newD_lt hD (hw.trans (hb.mono hw.size)) hn
theorem MixD.next {F k:Nat} {g:Value} {D:Nat→Prop} {w1 w w':World} (h:MixD F k g (newD D w1 w) w) (hw:Below w1.heap.size w1 w) (hb:Below w.heap.size w w') (hD:∀ b,D b→b < w1.heap.size):MixD F k g (newD D w1 w') w' :=
 h.mono hb.size (fun b hn=>hb.block b (newD_lt hD hw hn)) (fun b hn=>hn.imp id fun h=>⟨h.1,Nat.lt_of_lt_of_le h.2 hb.size⟩) fun b hn=>newD_lt hD (hw.trans (hb.mono hw.size)) hn
set_option maxRecDepth 100000 in
set_option maxHeartbeats 4000000 in
theorem tr10 {W w1:World} {S D:Nat→Prop} {F nb:Nat} {g:Grp} {r:List Grp} {Lo:List Nat} {ov:Value} {x:S_Item} {xs:Array Value} {i:Int} (hT:TM W S F D (g :: r) Lo ov w1) (hch:g.ch=none) (hnb:w1.heap[nb]? = some (.cells xs 48 (0,0))) (hn:xs.size=34) (hx:RCs D w1 (cS_Item x) (fun j=>xs[j]?) 0) (hok:itemOk F x=true) (hlen:g.ds.length≤1000000)
  {Q:Exit→Act→World→Prop} {j0 j1 j2 j3 j4 j8 j9 j10 j11 j12 j13 j14 j15 j16 j17 j18 j19 j20 j21 j22 j23 j24 j25 j26 j27 j28 j29 j30 j31 j32 j33 j34 j35 j36 j37 j38 j39 j40 j41 j42 j43 j44 j45 j46 j47 j48 j49 j50 j51 j52 j53 j54 j55 j56 j57 j58 j59 j60 j61 j62 j63 j64 j65 j66 j67 j68 j69 j70 j71 j72 j73 j74 j75 j76 j77 j78 j79 j80 j81:Value}
  (hQ:∀ (r36 r37 r38 r39 r40 r41 r42 r43 r44 r45 r46 r47 r48 r49 r50 r51 r52 r53 r54 r55:Value) (w:World) (D':Nat→Prop) ms' ds',TM W S F D' ({ g with l:=g.l++[.fill x],ms:=ms',ds:=ds',ch:=none } :: r) Lo ov w→Q .normal ⟨List.toArray (j0 :: j1 :: j2 :: j3 :: j4 :: (.int .i64 i) :: (ptr nb) :: (ptr g.b) :: j8 :: j9 :: j10 :: j11 :: j12 :: j13 :: j14 :: j15 :: j16 :: j17 :: j18 :: j19 :: j20 :: j21 :: j22 :: j23 :: j24 :: j25 :: j26 :: j27 :: j28 :: j29 :: j30 :: j31 :: j32 :: j33 :: j34 :: j35 :: r36 :: r37 :: r38 :: r39 :: r40 :: r41 :: r42 :: r43 :: r44 :: r45 :: r46 :: r47 :: r48 :: r49 :: r50 :: r51 :: r52 :: r53 :: r54 :: r55 :: j56 :: j57 :: j58 :: j59 :: j60 :: j61 :: j62 :: j63 :: j64 :: j65 :: j66 :: j67 :: j68 :: j69 :: j70 :: j71 :: j72 :: j73 :: j74 :: j75 :: j76 :: j77 :: j78 :: j79 :: j80 :: j81 :: []),[]⟩ w) :
  (regionAt Try.f30 10).wp Try.prog Q ⟨List.toArray (j0 :: j1 :: j2 :: j3 :: j4 :: (.int .i64 i) :: (ptr nb) :: (ptr g.b) :: j8 :: j9 :: j10 :: j11 :: j12 :: j13 :: j14 :: j15 :: j16 :: j17 :: j18 :: j19 :: j20 :: j21 :: j22 :: j23 :: j24 :: j25 :: j26 :: j27 :: j28 :: j29 :: j30 :: j31 :: j32 :: j33 :: j34 :: j35 :: j36 :: j37 :: j38 :: j39 :: j40 :: j41 :: j42 :: j43 :: j44 :: j45 :: j46 :: j47 :: j48 :: j49 :: j50 :: j51 :: j52 :: j53 :: j54 :: j55 :: j56 :: j57 :: j58 :: j59 :: j60 :: j61 :: j62 :: j63 :: j64 :: j65 :: j66 :: j67 :: j68 :: j69 :: j70 :: j71 :: j72 :: j73 :: j74 :: j75 :: j76 :: j77 :: j78 :: j79 :: j80 :: j81 :: []),[]⟩ w1:=by
 show Code.wp _ (Code.region 10 _ true) _ _ _
 have hgm:g∈g :: r:=List.mem_cons_self ..
 have hgb:=(hT.all g hgm).head.blk
 have hgs:=(hT.all g hgm).head.size
 unfold itemOk at hok
 simp only [Bool.and_eq_true,decide_eq_true_eq] at hok
 obtain ⟨⟨⟨⟨ok1,ok2⟩,ok3⟩,ok4⟩,ok5⟩:=hok
 obtain ⟨k,hk⟩:∃ k:Nat,x.f4=(k:Int):=⟨x.f4.toNat,by omega⟩
 have hk12:k < 12:=by omega
 obtain ⟨sn,sr,se⟩:=src_of hn hx
 have hlt:∀ w,Below w1.heap.size w1 w→∀ b,D b→b < w.heap.size:=fun w hw b hb=>Nat.lt_of_lt_of_le (hT.lt b hb) hw.size
 have hag:∀ w,Below w1.heap.size w1 w→Agree D w1 w:=fun w hw b hb=>hw.block b (hT.lt b hb)
 have c36:∀ w,Below w1.heap.size w1 w→w.cell? ⟨g.b,36,none⟩=some g.ms:=fun w hw=>by
  rw [cell_of (keep hw hgb),Array.getElem?_append_right (by rw [hgs]; decide),hgs]; rfl
 have c30:∀ w,Below w1.heap.size w1 w→w.cell? ⟨nb,30,none⟩=some (.int .i64 (k:Int)):=fun w hw=>by
  obtain ⟨u,h1,h2⟩:=RCs.get _ 0 30 _ hx (item_blend x)
  simp only [RD] at h2
  rw [cell_of (keep hw hnb),show xs[30]? = xs[0+30]? by rw [Nat.zero_add],h1,h2.1,hk]
 have HLI:=fun w (hw:Below w1.heap.size w1 w)=>load_whole (ty:=48) (n:=34) (by kernel_rfl) hn (keep hw hnb)
 have HLS:=fun w (hw:Below w1.heap.size w1 w)=>load_at (ty:=46) (b:=nb) (o:=2) (n:=27) (cs:=xs.extract 2 29) (by kernel_rfl) sn fun j hj=>(cell_of (keep hw hnb) (2+j)).trans (se j hj).symm
 refine wp_region_ord [(0,4),(1,4),(2,4),(3,4),(4,0),(5,0),(6,4),(7,4),(8,0),(10,4),(11,0),(9,1),(12,1),(13,0),(14,1),(15,4),(16,1),(17,2),(18,4),(19,4),(20,2)] 6 (fun w=>Below w1.heap.size w1 w) (by kernel_rfl) (by kernel_rfl) (Below.refl _ _).drew ?_
 unfold ptr
 iterate 4 (refine Ord.still _ rfl rfl (fun w=>by go_simp; rfl) ?_; go_simp)
 refine Ord.pure g.ms rfl rfl (fun w hw=>ex_load rfl (load_one (by kernel_rfl) (c36 w hw))) ?_
 go_simp
 refine Ord.pure (.agg xs) rfl rfl (fun w hw=>ex_load rfl (HLI w hw)) ?_
 go_simp
 iterate 2 (refine Ord.still _ rfl rfl (fun w=>by go_simp; rfl) ?_; go_simp)
 refine Ord.pure (.agg (xs.extract 2 29)) rfl rfl (fun w hw=>ex_load rfl (HLS w hw)) ?_
 go_simp
 refine Ord.still _ rfl rfl (fun w=>by go_simp; rfl) ?_
 go_simp
 refine Ord.pure (.int .i64 (k:Int)) rfl rfl (fun w hw=>ex_load rfl (load_one (by kernel_rfl) (c30 w hw))) ?_
 go_simp
 refine Ord.eff (fun _=>True) (fun u w=>Below w1.heap.size w1 w∧SrcD F x.f2 u (newD D w1 w) w) (by decide) rfl rfl (fun w hw=>.call 41 #[.agg (xs.extract 2 29)] (by go_simp) ((sourceOf_at (F:=F) w (hlt w hw) sn (RCs.mono (fun _ h=>h) (hag w hw) _ _ _ sr) (Nat.le_trans ok2 (by decide)) (fun h3=>?_)).mono ?_)) (fun _ _ _ h=>h.1) ?_
 ·rw [h3] at ok5
  exact Option.isSome_iff_exists.1 (by simpa using ok5)
 ·rintro e w' ⟨u,rfl,hb,hs⟩
  have hw':=hw.trans (hb.mono hw.size)
  refine ⟨u,rfl,trivial,hw',hs.mono (Nat.le_refl _) (fun _ _=>rfl) (fun b hb=>?_) fun b hb=>?_⟩
  ·rcases hb with hb | hb
   ·exact .inl hb
   ·exact .inr ⟨Nat.le_trans hw.size hb.1,hb.2⟩
  ·rcases hb with hb | hb
   ·exact hlt w' hw' b hb
   ·exact hb.2
 rintro u1 -
 go_simp
 refine Ord.eff (fun _=>True) (fun u w=>(Below w1.heap.size w1 w∧SrcD F x.f2 u1 (newD D w1 w) w)∧MixD F k u (newD D w1 w) w) (by decide) rfl rfl (fun w hw=>.call 42 #[.int .i64 (k:Int)] (by go_simp) ((InksD_at F hk12 w).mono ?_)) (fun _ _ _ h=>h.1) ?_
 ·rintro e w' ⟨u,rfl,hb,hs⟩
  have hw':=hw.1.trans (hb.mono hw.1.size)
  have hle:∀ b,newD D w1 w b→newD D w1 w' b:=fun b hb'=>hb'.imp id fun h=>⟨h.1,Nat.lt_of_lt_of_le h.2 hb.size⟩
  have hl:∀ b,newD D w1 w' b→b < w'.heap.size:=fun b hb'=>hb'.elim (hlt w' hw' b) fun h=>h.2
  have hl0:∀ b,newD D w1 w b→b < w.heap.size:=fun b hb'=>hb'.elim (hlt w hw.1 b) fun h=>h.2
  exact ⟨u,rfl,trivial,⟨hw',hw.2.mono hb.size (fun b hb'=>hb.block b (hl0 b hb')) hle hl⟩,hs.mono (Nat.le_refl _) (fun _ _=>rfl) (fun b hb'=>.inr ⟨Nat.le_trans hw.1.size hb'.1,hb'.2⟩) hl⟩
 rintro u2 -
 go_simp
 -- the value is built,boxed,made a member,and laid into a row of one
 have hcells:∀ (w:World),SrcD F x.f2 u1 (newD D w1 w) w→MixD F k u2 (newD D w1 w) w→Try.prog.built 105 [(0,.agg xs),(1,.int .i64 i),(2,u1),(3,u2)]=some (xs++#[.int .i64 i,u1,u2]):=fun w hs hm=>built105 hn _ _ _ ⟨_,_,rfl⟩ hs.func hm.func
 refine Ord.pure (.agg (xs++#[.int .i64 i,u1,u2])) rfl rfl (fun w hw=>ex_build rfl (hcells w hw.1.2 hw.2)) ?_
 go_simp
 generalize hcv:xs++#[.int .i64 i,u1,u2]=cv
 have HCV:=aside hcv
 clear hcv hcells
 refine Ord.eff (fun u=>∃ n,u=.pointer (some ⟨n,0,none⟩)) (fun u w=>((Below w1.heap.size w1 w∧SrcD F x.f2 u1 (newD D w1 w) w)∧MixD F k u2 (newD D w1 w) w)∧∃ n,u=.pointer (some ⟨n,0,none⟩)∧w1.heap.size≤n∧w.heap[n]? = some (.cells cv 105 (0,0))) (by decide) rfl rfl
  (fun w hw=>.value _ (by go_simp) ⟨⟨_,rfl⟩,⟨⟨hw.1.1.alloc hw.1.1.size _,hw.1.2.next hw.1.1 ((Below.refl _ _).alloc (Nat.le_refl _) _) hT.lt⟩,hw.2.next hw.1.1 ((Below.refl _ _).alloc (Nat.le_refl _) _) hT.lt⟩,_,rfl,hw.1.1.size,heap_alloc_new _ _⟩) (fun _ _ _ h=>h.1) ?_
 rintro u3 ⟨n,rfl⟩
 go_simp
 refine Ord.still _ rfl rfl (fun w=>by go_simp; rfl) ?_
 go_simp
 refine Ord.eff (fun u=>∃ q,u=.slice (some ⟨q,0,none⟩) 1 1) (fun u w=>(((Below w1.heap.size w1 w∧SrcD F x.f2 u1 (newD D w1 w) w)∧MixD F k u2 (newD D w1 w) w)∧w1.heap.size≤n∧w.heap[n]? = some (.cells cv 105 (0,0)))∧∃ q,u=.slice (some ⟨q,0,none⟩) 1 1∧w1.heap.size≤q∧w.heap[q]? = some (.cells #[.iface 100 (.pointer (some ⟨n,0,none⟩))] 108 (0,0))) (by decide) rfl rfl
  (fun w hw=>?_) (fun _ _ _ h=>?_) ?_
 ·obtain ⟨⟨⟨h1,h2⟩,h3⟩,h4,h5⟩:=hw
  have hb:Below w.heap.size w (w.alloc (.cells #[.iface 100 (.pointer (some ⟨n,0,none⟩))] 108 (0,0))):=(Below.refl _ _).alloc (Nat.le_refl _) _
  exact .value _ (by go_simp) ⟨⟨_,rfl⟩,⟨⟨⟨h1.alloc h1.size _,h2.next h1 hb hT.lt⟩,h3.next h1 hb hT.lt⟩,h4,keep hb h5⟩,_,rfl,h1.size,heap_alloc_new _ _⟩
 ·exact h.1
 rintro u4 ⟨q,rfl⟩
 go_simp
 have hgr:=(hT.all g hgm).row
 rw [hch] at hgr
 simp only [Option.toList_none,List.map_nil,List.append_nil,List.length_nil,Nat.add_zero] at hgr
 refine Ord.eff (fun _=>True) (fun u w'=>∃ w,((((Below w1.heap.size w1 w∧SrcD F x.f2 u1 (newD D w1 w) w)∧MixD F k u2 (newD D w1 w) w)∧w1.heap.size≤n∧w.heap[n]? = some (.cells cv 105 (0,0))))∧w'.ownsRow W.heap.size 108 1 u (g.ds.length+1) (g.ds++[.iface 100 (.pointer (some ⟨n,0,none⟩))])∧w.grownBy w' g.ms.ownBlock∧(u.ownBlock=g.ms.ownBlock∨u.ownBlock=some w.heap.size)) (by decide) rfl rfl
  (fun w hw=>?_) (fun h=>by cases h) ?_
 ·obtain ⟨h1,h4,h5⟩:=hw
  obtain ⟨v',w',r1,r2,r3,r5⟩:=push_one 96 96 108 16 .nilIface (by kernel_rfl) info108 rfl (own_same (w':=w) hgr fun b hb=>h1.1.1.1.block b (hT.ow g hgm b (Grp.own_ms hb)).2.2) (cell_of h5 0) rfl hlen (by decide) (Nat.le_trans hT.below.size h1.1.1.1.size)
  exact .value v' (ex_append rfl r1) ⟨trivial,w,h1,r2,r3,r5⟩
 rintro u5 -
 go_simp
 iterate 2 (refine Ord.still _ rfl rfl (fun w=>by go_simp; rfl) ?_; go_simp)
 have hgn:∀ w w',Below w1.heap.size w1 w→w.grownBy w' g.ms.ownBlock→w'.heap[g.b]? = some (.cells (g.xs++#[.int .i64 g.a,g.mx,g.ms]) 98 (0,0)):=fun w w' hw hg=>by
  rw [hg.block g.b (Nat.lt_of_lt_of_le (heap_lt hgb) hw.size) (fun e=>(hT.all g hgm).self e.symm)]
  exact keep hw hgb
 refine Ord.eff (fun _=>True) (fun _ w''=>∃ w',(∃ w,(((Below w1.heap.size w1 w∧SrcD F x.f2 u1 (newD D w1 w) w)∧MixD F k u2 (newD D w1 w) w)∧w1.heap.size≤n∧w.heap[n]? = some (.cells cv 105 (0,0)))∧w'.ownsRow W.heap.size 108 1 u5 (g.ds.length+1) (g.ds++[.iface 100 (.pointer (some ⟨n,0,none⟩))])∧w.grownBy w' g.ms.ownBlock∧(u5.ownBlock=g.ms.ownBlock∨u5.ownBlock=some w.heap.size))∧w''=w'.setCell ⟨g.b,36,none⟩ u5) (by decide) rfl rfl
  (fun w' hw=>?_) (fun h=>by cases h) ?_
 ·obtain ⟨w,h1,r2,r3,r5⟩:=hw
  have hb:=hgn w w' h1.1.1.1 r3
  have hone:u5.oneCell'=true:=by
   rcases r2.2 with ⟨rfl,_⟩ | ⟨_,_,_,rfl,_⟩ <;> rfl
  refine .skip (ex_store rfl (store_one (by kernel_rfl) (old:=g.ms) ?_ (frz_of hb 36) hone)) ⟨trivial,w',⟨w,h1,r2,r3,r5⟩,rfl⟩
  rw [cell_of hb,Array.getElem?_append_right (by rw [hgs]; decide),hgs]; rfl
 rintro u6 - w3 ⟨w2,⟨w,h1,r2,r3,r5⟩,rfl⟩
 obtain ⟨⟨⟨hB,hs⟩,hm⟩,hn1,hn2⟩:=h1
 have hb:=hgn w w2 hB r3
 have hTw:=hT.next hB (D':=newD D w1 w) (fun _=>.inl) fun b hb=>⟨newD_lt hT.lt hB hb,hb.imp id fun h=>h.1⟩
 have hfill:FillAt F (newD D w1 w) w n x xs i u1 u2:=⟨by rw [HCV.out]; exact hn2,hn,RCs.mono (fun _=>.inl) (hag w hB) _ _ _ hx,hs,k,hk12,hk,hm⟩
 have hmb:MbAt F (newD D w1 w) w (.fill x) (.iface 100 (ptr n)):=by
  simp only [MbAt]
  exact ⟨n,xs,i,u1,u2,rfl,.inr ⟨hn1,heap_lt hn2⟩,hfill⟩
 have hmbs:=(hTw.all g hgm).mbs.snoc hmb
 have hchg:Chg (·∈g.own) w (w2.setCell ⟨g.b,36,none⟩ u5):=⟨r3.os,r3.tape,r3.output,by rw [World.size_setCell]; exact r3.size,fun b hb hno=>by
  rw [Below.heap_setCell _ _ _ _ (show b≠g.b from fun e=>hno (e ▸ g.own_b))]
  exact r3.block b hb fun e=>hno (Grp.own_ms e.symm)⟩
 have hagw:Agree (newD D w1 w) w (w2.setCell ⟨g.b,36,none⟩ u5):=fun b hb=>hchg.block b (hTw.lt b hb) fun ho=>(hTw.ow g hgm b ho).1 hb
 have hltw:∀ b,newD D w1 w b→b < (w2.setCell ⟨g.b,36,none⟩ u5).heap.size:=fun b hb=>Nat.lt_of_lt_of_le (hTw.lt b hb) hchg.size
 have hset:=setCell_get w2 g.b 36 u5 hb
 rw [show (g.xs++#[.int .i64 g.a,g.mx,g.ms]).setIfInBounds 36 u5=g.xs++#[.int .i64 g.a,g.mx,u5] from set36 hgs] at hset
 refine hQ _ _ _ _ _ _ _ _ _ _ _ _ _ _ _ _ _ _ _ _ _ (newD D w1 w) u5 (g.ds++[.iface 100 (ptr n)]) (hTw.app hchg hset ?_ ?_ (MbsAt.mono hchg.size hagw (fun _ h=>h) hltw _ _ hmbs))
 ·have:=own_same (w':=w2.setCell ⟨g.b,36,none⟩ u5) r2 fun b hb'=>Below.heap_setCell _ _ _ _ (fun e=>?_)
  ·simpa [ptr] using this
  ·have e:b=g.b:=e
   subst e
   rcases r5 with r5 | r5
   ·exact (hT.all g hgm).self (r5.symm.trans hb')
   ·rw [r5] at hb'
    have:=Option.some.inj hb'
    have:=Nat.lt_of_lt_of_le (heap_lt hgb) hB.size
    omega
 ·rcases r5 with r5 | r5
  ·exact .inl r5
  ·refine .inr ⟨_,r5,Nat.le_refl _,?_⟩
   rcases r2.2 with ⟨e,h0⟩ | ⟨p,cap,cur,e,_,hp,_⟩
   ·omega
   ·rw [World.size_setCell]
    rw [e] at r5
    obtain rfl:p=w.heap.size:=by simpa [Value.ownBlock] using r5
    exact heap_lt hp
theorem built98 {xs:Array Value} (h:xs.size=34) (a m:Value) (ha:∃ k i,a=.int k i) (hm:∃ f x y,m=.func f x y):Try.prog.built 98 [(0,.agg xs),(1,a),(2,m)]=some (xs++#[a,m,.slice none 0 0]):=by
 obtain ⟨x0,x1,x2,x3,x4,x5,x6,x7,x8,x9,x10,x11,x12,x13,x14,x15,x16,x17,x18,x19,x20,x21,x22,x23,x24,x25,x26,x27,x28,x29,x30,x31,x32,x33,rfl⟩:=arr34 h
 obtain ⟨k,i,rfl⟩:=ha
 obtain ⟨f',x',y',rfl⟩:=hm
 kernel_rfl
set_option maxRecDepth 100000 in
set_option maxHeartbeats 4000000 in
theorem tr12 {W w1:World} {S D:Nat→Prop} {F nb:Nat} {g:Grp} {r:List Grp} {Lo:List Nat} {ov:Value} {x:S_Item} {xs:Array Value} {i:Int} (hT:TM W S F D (g :: r) Lo ov w1) (hnb:w1.heap[nb]? = some (.cells xs 48 (0,0))) (hn:xs.size=34) (hx:RCs D w1 (cS_Item x) (fun j=>xs[j]?) 0) (hok:itemOk F x=true)
  {Q:Exit→Act→World→Prop} {j0 j1 j2 j3 j4 j8 j9 j10 j11 j12 j13 j14 j15 j16 j17 j18 j19 j20 j21 j22 j23 j24 j25 j26 j27 j28 j29 j30 j31 j32 j33 j34 j35 j36 j37 j38 j39 j40 j41 j42 j43 j44 j45 j46 j47 j48 j49 j50 j51 j52 j53 j54 j55 j56 j57 j58 j59 j60 j61 j62 j63 j64 j65 j66 j67 j68 j69 j70 j71 j72 j73 j74 j75 j76 j77 j78 j79 j80 j81:Value}
  (hQ:∀ (r58 r59 r60 r61 r62 r63 r64:Value) (w:World) (c:Nat) (D':Nat→Prop) mx,TM W S F D' (g :: r) Lo ov w→GrpAt F W.heap.size D' w ⟨x,[],c,xs,i,mx,.slice none 0 0,[],none,false⟩→(¬ D' c∧W.heap.size≤c∧c < w.heap.size)→(∀ k∈g :: r,c ∉ k.own)→ov.ownBlock≠some c→Q .normal ⟨List.toArray (j0 :: j1 :: j2 :: j3 :: j4 :: (.int .i64 i) :: (ptr nb) :: (ptr g.b) :: (ptr c) :: j9 :: j10 :: j11 :: j12 :: j13 :: j14 :: j15 :: j16 :: j17 :: j18 :: j19 :: j20 :: j21 :: j22 :: j23 :: j24 :: j25 :: j26 :: j27 :: j28 :: j29 :: j30 :: j31 :: j32 :: j33 :: j34 :: j35 :: j36 :: j37 :: j38 :: j39 :: j40 :: j41 :: j42 :: j43 :: j44 :: j45 :: j46 :: j47 :: j48 :: j49 :: j50 :: j51 :: j52 :: j53 :: j54 :: j55 :: j56 :: j57 :: r58 :: r59 :: r60 :: r61 :: r62 :: r63 :: r64 :: j65 :: j66 :: j67 :: j68 :: j69 :: j70 :: j71 :: j72 :: j73 :: j74 :: j75 :: j76 :: j77 :: j78 :: j79 :: j80 :: j81 :: []),[]⟩ w) :
  (regionAt Try.f30 12).wp Try.prog Q ⟨List.toArray (j0 :: j1 :: j2 :: j3 :: j4 :: (.int .i64 i) :: (ptr nb) :: (ptr g.b) :: j8 :: j9 :: j10 :: j11 :: j12 :: j13 :: j14 :: j15 :: j16 :: j17 :: j18 :: j19 :: j20 :: j21 :: j22 :: j23 :: j24 :: j25 :: j26 :: j27 :: j28 :: j29 :: j30 :: j31 :: j32 :: j33 :: j34 :: j35 :: j36 :: j37 :: j38 :: j39 :: j40 :: j41 :: j42 :: j43 :: j44 :: j45 :: j46 :: j47 :: j48 :: j49 :: j50 :: j51 :: j52 :: j53 :: j54 :: j55 :: j56 :: j57 :: j58 :: j59 :: j60 :: j61 :: j62 :: j63 :: j64 :: j65 :: j66 :: j67 :: j68 :: j69 :: j70 :: j71 :: j72 :: j73 :: j74 :: j75 :: j76 :: j77 :: j78 :: j79 :: j80 :: j81 :: []),[]⟩ w1:=by
 show Code.wp _ (Code.region 12 _ true) _ _ _
 unfold itemOk at hok
 simp only [Bool.and_eq_true,decide_eq_true_eq] at hok
 obtain ⟨⟨⟨⟨ok1,ok2⟩,ok3⟩,ok4⟩,ok5⟩:=hok
 obtain ⟨k,hk⟩:∃ k:Nat,x.f4=(k:Int):=⟨x.f4.toNat,by omega⟩
 have hk12:k < 12:=by omega
 have hlt:∀ w,Below w1.heap.size w1 w→∀ b,D b→b < w.heap.size:=fun w hw b hb=>Nat.lt_of_lt_of_le (hT.lt b hb) hw.size
 have hag:∀ w,Below w1.heap.size w1 w→Agree D w1 w:=fun w hw b hb=>hw.block b (hT.lt b hb)
 have c30:∀ w,Below w1.heap.size w1 w→w.cell? ⟨nb,30,none⟩=some (.int .i64 (k:Int)):=fun w hw=>by
  obtain ⟨u,h1,h2⟩:=RCs.get _ 0 30 _ hx (item_blend x)
  simp only [RD] at h2
  rw [cell_of (keep hw hnb),show xs[30]? = xs[0+30]? by rw [Nat.zero_add],h1,h2.1,hk]
 have HLI:=fun w (hw:Below w1.heap.size w1 w)=>load_whole (ty:=48) (n:=34) (by kernel_rfl) hn (keep hw hnb)
 refine wp_region_ord [(1,4),(2,4),(0,0),(3,0),(4,1),(5,0),(6,1),(7,4)] 4 (fun w=>Below w1.heap.size w1 w) (by kernel_rfl) (by kernel_rfl) (Below.refl _ _).drew ?_
 unfold ptr
 iterate 2 (refine Ord.still _ rfl rfl (fun w=>by go_simp; rfl) ?_; go_simp)
 refine Ord.pure (.agg xs) rfl rfl (fun w hw=>ex_load rfl (HLI w hw)) ?_
 go_simp
 refine Ord.pure (.int .i64 (k:Int)) rfl rfl (fun w hw=>ex_load rfl (load_one (by kernel_rfl) (c30 w hw))) ?_
 go_simp
 refine Ord.eff (fun _=>True) (fun u w=>Below w1.heap.size w1 w∧MixD F k u (newD D w1 w) w) (by decide) rfl rfl (fun w hw=>.call 42 #[.int .i64 (k:Int)] (by go_simp) ((InksD_at F hk12 w).mono ?_)) (fun _ _ _ h=>h.1) ?_
 ·rintro e w' ⟨u,rfl,hb,hs⟩
  have hw':=hw.trans (hb.mono hw.size)
  exact ⟨u,rfl,trivial,hw',hs.mono (Nat.le_refl _) (fun _ _=>rfl) (fun b hb'=>.inr ⟨Nat.le_trans hw.size hb'.1,hb'.2⟩) fun b hb'=>hb'.elim (hlt w' hw' b) fun h=>h.2⟩
 rintro u2 -
 go_simp
 refine Ord.pure (.agg (xs++#[.int .i64 i,u2,.slice none 0 0])) rfl rfl (fun w hw=>ex_build rfl (built98 hn _ _ ⟨_,_,rfl⟩ hw.2.func)) ?_
 go_simp
 generalize hcv:xs++#[.int .i64 i,u2,.slice none 0 0]=cv
 have HCV:=aside hcv
 clear hcv
 refine Ord.eff (fun u=>∃ n,u=.pointer (some ⟨n,0,none⟩)) (fun u w=>Below w1.heap.size w1 w∧∃ w0,(Below w1.heap.size w1 w0∧MixD F k u2 (newD D w1 w0) w0)∧u=.pointer (some ⟨w0.heap.size,0,none⟩)∧w=w0.alloc (.cells cv 98 (0,0))) (by decide) rfl rfl
  (fun w hw=>.value _ (by go_simp) ⟨⟨_,rfl⟩,hw.1.alloc hw.1.size _,w,hw,rfl,rfl⟩) (fun h=>?_) ?_
 ·rintro u w ⟨hb,w0,⟨h1,h2⟩,rfl,rfl⟩
  exact ⟨hb,h2.next h1 ((Below.refl _ _).alloc (Nat.le_refl _) _) hT.lt⟩
 rintro u3 ⟨n,rfl⟩
 go_simp
 refine Ord.still _ rfl rfl (fun w=>by go_simp; rfl) ?_
 go_simp
 rintro w ⟨hB',w0,⟨hB,hm⟩,rfl,rfl⟩
 have hb1:Below w0.heap.size w0 (w0.alloc (.cells cv 98 (0,0))):=(Below.refl _ _).alloc (Nat.le_refl _) _
 have hsz:=World.size_alloc w0 (.cells cv 98 (0,0))
 have hTw:=hT.next hB' (D':=newD D w1 w0) (fun _=>.inl) fun b hb=>⟨Nat.lt_of_lt_of_le (newD_lt hT.lt hB hb) hb1.size,hb.imp id fun h=>h.1⟩
 have hm':MixD F k u2 (newD D w1 w0) (w0.alloc (.cells cv 98 (0,0))):=hm.mono hb1.size (fun b hb=>hb1.block b (newD_lt hT.lt hB hb)) (fun _ h=>h) fun b hb=>Nat.lt_of_lt_of_le (newD_lt hT.lt hB hb) hb1.size
 refine hQ _ _ _ _ _ _ _ _ w0.heap.size (newD D w1 w0) u2 hTw ⟨⟨?_,hn,RCs.mono (fun _=>.inl) (hag _ hB') _ _ _ hx⟩,fun _=>⟨k,hk12,hk,hm'⟩,World.ownsRow_nil _ _ _ _,by simp only [MbsAt],by simp [Value.ownBlock]⟩ ⟨fun h=>?_,Nat.le_trans hT.below.size hB.size,by rw [hsz]; exact Nat.lt_succ_self _⟩ (fun j hj ho=>?_) fun ho=>?_
 ·rw [HCV.out]; exact heap_alloc_new _ _
 ·exact Nat.lt_irrefl _ (newD_lt hT.lt hB h)
 ·exact Nat.lt_irrefl _ (Nat.lt_of_lt_of_le (hT.ow j hj _ ho).2.2 hB.size)
 ·exact Nat.lt_irrefl _ (Nat.lt_of_lt_of_le (hT.oo _ ho).2.2 hB.size)
end Go.Vm.TopG
