/-
  slices.Clone,six times (printed).
-/
import Derived.Test.YtjjclmimifionaaPa
import Derived.Test.YtjjclmimifionaaVmD
import Derived.OwnWalk
import Derived.Laws.ResultCell
import Derived.Carry
import Derived.Shelf.Abstract
import Derived.Recover
import Derived.WalkKit
import Derived.Deep.AppendLies
import Derived.Deep.RegionLaw
import Derived.TacticsInMore
import Derived.StillTailTactics
namespace Go.Vm.TopG
open Go.Proofs
set_option maxRecDepth 20000
def slices_Clone_string (F:Nat) (a0:List (List UInt8)):Option ((List (List UInt8))) :=
 chk (([]:List (List UInt8)).length+a0.length≤4294967296) <|
 some (([]:List (List UInt8))++a0)
def slices_Clone_Item (F:Nat) (a0:List S_Item):Option ((List S_Item)) :=
 chk (([]:List S_Item).length+a0.length≤4294967296) <|
 some (([]:List S_Item)++a0)
def slices_Clone_Run (F:Nat) (a0:List S_Run):Option ((List S_Run)) :=
 chk (([]:List S_Run).length+a0.length≤4294967296) <|
 some (([]:List S_Run)++a0)
def slices_Clone_Stop (F:Nat) (a0:List S_Stop):Option ((List S_Stop)) :=
 chk (([]:List S_Stop).length+a0.length≤4294967296) <|
 some (([]:List S_Stop)++a0)
def slices_Clone_Inks (F:Nat) (a0:List S_Inks):Option ((List S_Inks)) :=
 chk (([]:List S_Inks).length+a0.length≤4294967296) <|
 some (([]:List S_Inks)++a0)
def slices_Clone_uint8 (F:Nat) (a0:List UInt8):Option ((List UInt8)) :=
 chk (([]:List UInt8).length+a0.length≤4294967296) <|
 some (([]:List UInt8)++a0)
theorem slices_Clone_string_ok {F:Nat} {a0:List (List UInt8)} {r:(List (List UInt8))} (h:slices_Clone_string F a0=some r):ACall Try.prog 23 [.d (.sl 1 (a0.map cS))] [] (.own 9 1 (r.map cS)) []:=by
 rw [slices_Clone_string] at h
 refine ACall.intro (N:=8) Try.func23 rfl rfl rfl rfl rfl fun e=>?_
 refine T_reg [] [0] [] [] 1 (by kernel_rfl) (trivial) ?_
 refine T_seqk ?_
 refine T_nilTest (sz:=1) (es:=(a0.map cS)) 0 3 4 22 (by kernel_rfl) (by kernel_rfl) (by kernel_rfl) (by kernel_rfl) [0] [(0,.d (.sl 1 (a0.map cS)))] (fun _=>by kernel_rfl) (fun hnil=>?_) ?_
 ·replace hnil:=List.map_eq_nil_iff.1 hnil
  have h:(some [])=some r:=by subst hnil; exact h
  refine T_reg [] [2] [(2,.own 9 1 ([].map cS))] [] 1 (by kernel_rfl) (trivial) ?_
  obtain hs:=Option.some.inj h; subst hs
  refine T_ret fun a w hm=>then_ret (T_return (fr':=[(2,.own 9 1 ([].map cS))]) [2] (by kernel_rfl) [.keep [2]] (by kernel_rfl) (by kernel_rfl) (by kernel_rfl) (by show _=_; kernel_rfl) (by exact trivial) a w hm)
 ·skip
  refine T_skip fun a w hm=>then_norm (((?_:T Try.prog e 8 _ _ _) a w hm))
  obtain ⟨hp1,h⟩:=chk_ok h
  refine T_reg [(2,{ es:=some ((([]:List (List UInt8))++a0).map cS) })] [2] [(2,.own 9 1 ((([]:List (List UInt8))++a0).map cS))] [(0,([]:List (List Dat))=[]),(1,(([]:List (List UInt8)).map cS).length+(a0.map cS).length≤4294967296∧(([]:List (List UInt8)).map cS)++(a0.map cS)=((([]:List (List UInt8))++a0).map cS))] 1 (by kernel_rfl) (⟨rfl,app_ok cS hp1⟩) ?_
  obtain hs:=Option.some.inj h; subst hs
  refine T_ret fun a w hm=>T_return (fr':=[(2,.own 9 1 ((([]:List (List UInt8))++a0).map cS))]) [2] (by kernel_rfl) [.keep [2]] (by kernel_rfl) (by kernel_rfl) (by kernel_rfl) (by show _=_; kernel_rfl) (by exact trivial) a w hm
theorem slices_Clone_Item_ok {F:Nat} {a0:List S_Item} {r:(List S_Item)} (h:slices_Clone_Item F a0=some r):ACall Try.prog 24 [.d (.sl 34 (a0.map cS_Item))] [] (.own 48 34 (r.map cS_Item)) []:=by
 rw [slices_Clone_Item] at h
 refine ACall.intro (N:=8) Try.func24 rfl rfl rfl rfl rfl fun e=>?_
 refine T_reg [] [0] [] [] 1 (by kernel_rfl) (trivial) ?_
 refine T_seqk ?_
 refine T_nilTest (sz:=34) (es:=(a0.map cS_Item)) 0 3 4 23 (by kernel_rfl) (by kernel_rfl) (by kernel_rfl) (by kernel_rfl) [0] [(0,.d (.sl 34 (a0.map cS_Item)))] (fun _=>by kernel_rfl) (fun hnil=>?_) ?_
 ·replace hnil:=List.map_eq_nil_iff.1 hnil
  have h:(some [])=some r:=by subst hnil; exact h
  refine T_reg [] [2] [(2,.own 48 34 ([].map cS_Item))] [] 1 (by kernel_rfl) (trivial) ?_
  obtain hs:=Option.some.inj h; subst hs
  refine T_ret fun a w hm=>then_ret (T_return (fr':=[(2,.own 48 34 ([].map cS_Item))]) [2] (by kernel_rfl) [.keep [2]] (by kernel_rfl) (by kernel_rfl) (by kernel_rfl) (by show _=_; kernel_rfl) (by exact trivial) a w hm)
 ·skip
  refine T_skip fun a w hm=>then_norm (((?_:T Try.prog e 8 _ _ _) a w hm))
  obtain ⟨hp1,h⟩:=chk_ok h
  refine T_reg [(2,{ es:=some ((([]:List S_Item)++a0).map cS_Item) })] [2] [(2,.own 48 34 ((([]:List S_Item)++a0).map cS_Item))] [(0,([]:List (List Dat))=[]),(1,(([]:List S_Item).map cS_Item).length+(a0.map cS_Item).length≤4294967296∧(([]:List S_Item).map cS_Item)++(a0.map cS_Item)=((([]:List S_Item)++a0).map cS_Item))] 1 (by kernel_rfl) (⟨rfl,app_ok cS_Item hp1⟩) ?_
  obtain hs:=Option.some.inj h; subst hs
  refine T_ret fun a w hm=>T_return (fr':=[(2,.own 48 34 ((([]:List S_Item)++a0).map cS_Item))]) [2] (by kernel_rfl) [.keep [2]] (by kernel_rfl) (by kernel_rfl) (by kernel_rfl) (by show _=_; kernel_rfl) (by exact trivial) a w hm
theorem slices_Clone_Run_ok {F:Nat} {a0:List S_Run} {r:(List S_Run)} (h:slices_Clone_Run F a0=some r):ACall Try.prog 25 [.d (.sl 3 (a0.map cS_Run))] [] (.own 72 3 (r.map cS_Run)) []:=by
 rw [slices_Clone_Run] at h
 refine ACall.intro (N:=8) Try.func25 rfl rfl rfl rfl rfl fun e=>?_
 refine T_reg [] [0] [] [] 1 (by kernel_rfl) (trivial) ?_
 refine T_seqk ?_
 refine T_nilTest (sz:=3) (es:=(a0.map cS_Run)) 0 3 4 33 (by kernel_rfl) (by kernel_rfl) (by kernel_rfl) (by kernel_rfl) [0] [(0,.d (.sl 3 (a0.map cS_Run)))] (fun _=>by kernel_rfl) (fun hnil=>?_) ?_
 ·replace hnil:=List.map_eq_nil_iff.1 hnil
  have h:(some [])=some r:=by subst hnil; exact h
  refine T_reg [] [2] [(2,.own 72 3 ([].map cS_Run))] [] 1 (by kernel_rfl) (trivial) ?_
  obtain hs:=Option.some.inj h; subst hs
  refine T_ret fun a w hm=>then_ret (T_return (fr':=[(2,.own 72 3 ([].map cS_Run))]) [2] (by kernel_rfl) [.keep [2]] (by kernel_rfl) (by kernel_rfl) (by kernel_rfl) (by show _=_; kernel_rfl) (by exact trivial) a w hm)
 ·skip
  refine T_skip fun a w hm=>then_norm (((?_:T Try.prog e 8 _ _ _) a w hm))
  obtain ⟨hp1,h⟩:=chk_ok h
  refine T_reg [(2,{ es:=some ((([]:List S_Run)++a0).map cS_Run) })] [2] [(2,.own 72 3 ((([]:List S_Run)++a0).map cS_Run))] [(0,([]:List (List Dat))=[]),(1,(([]:List S_Run).map cS_Run).length+(a0.map cS_Run).length≤4294967296∧(([]:List S_Run).map cS_Run)++(a0.map cS_Run)=((([]:List S_Run)++a0).map cS_Run))] 1 (by kernel_rfl) (⟨rfl,app_ok cS_Run hp1⟩) ?_
  obtain hs:=Option.some.inj h; subst hs
  refine T_ret fun a w hm=>T_return (fr':=[(2,.own 72 3 ((([]:List S_Run)++a0).map cS_Run))]) [2] (by kernel_rfl) [.keep [2]] (by kernel_rfl) (by kernel_rfl) (by kernel_rfl) (by show _=_; kernel_rfl) (by exact trivial) a w hm
theorem slices_Clone_Stop_ok {F:Nat} {a0:List S_Stop} {r:(List S_Stop)} (h:slices_Clone_Stop F a0=some r):ACall Try.prog 26 [.d (.sl 9 (a0.map cS_Stop))] [] (.own 75 9 (r.map cS_Stop)) []:=by
 rw [slices_Clone_Stop] at h
 refine ACall.intro (N:=8) Try.func26 rfl rfl rfl rfl rfl fun e=>?_
 refine T_reg [] [0] [] [] 1 (by kernel_rfl) (trivial) ?_
 refine T_seqk ?_
 refine T_nilTest (sz:=9) (es:=(a0.map cS_Stop)) 0 3 4 38 (by kernel_rfl) (by kernel_rfl) (by kernel_rfl) (by kernel_rfl) [0] [(0,.d (.sl 9 (a0.map cS_Stop)))] (fun _=>by kernel_rfl) (fun hnil=>?_) ?_
 ·replace hnil:=List.map_eq_nil_iff.1 hnil
  have h:(some [])=some r:=by subst hnil; exact h
  refine T_reg [] [2] [(2,.own 75 9 ([].map cS_Stop))] [] 1 (by kernel_rfl) (trivial) ?_
  obtain hs:=Option.some.inj h; subst hs
  refine T_ret fun a w hm=>then_ret (T_return (fr':=[(2,.own 75 9 ([].map cS_Stop))]) [2] (by kernel_rfl) [.keep [2]] (by kernel_rfl) (by kernel_rfl) (by kernel_rfl) (by show _=_; kernel_rfl) (by exact trivial) a w hm)
 ·skip
  refine T_skip fun a w hm=>then_norm (((?_:T Try.prog e 8 _ _ _) a w hm))
  obtain ⟨hp1,h⟩:=chk_ok h
  refine T_reg [(2,{ es:=some ((([]:List S_Stop)++a0).map cS_Stop) })] [2] [(2,.own 75 9 ((([]:List S_Stop)++a0).map cS_Stop))] [(0,([]:List (List Dat))=[]),(1,(([]:List S_Stop).map cS_Stop).length+(a0.map cS_Stop).length≤4294967296∧(([]:List S_Stop).map cS_Stop)++(a0.map cS_Stop)=((([]:List S_Stop)++a0).map cS_Stop))] 1 (by kernel_rfl) (⟨rfl,app_ok cS_Stop hp1⟩) ?_
  obtain hs:=Option.some.inj h; subst hs
  refine T_ret fun a w hm=>T_return (fr':=[(2,.own 75 9 ((([]:List S_Stop)++a0).map cS_Stop))]) [2] (by kernel_rfl) [.keep [2]] (by kernel_rfl) (by kernel_rfl) (by kernel_rfl) (by show _=_; kernel_rfl) (by exact trivial) a w hm
theorem slices_Clone_Inks_ok {F:Nat} {a0:List S_Inks} {r:(List S_Inks)} (h:slices_Clone_Inks F a0=some r):ACall Try.prog 27 [.d (.sl 8 (a0.map cS_Inks))] [] (.own 35 8 (r.map cS_Inks)) []:=by
 rw [slices_Clone_Inks] at h
 refine ACall.intro (N:=8) Try.func27 rfl rfl rfl rfl rfl fun e=>?_
 refine T_reg [] [0] [] [] 1 (by kernel_rfl) (trivial) ?_
 refine T_seqk ?_
 refine T_nilTest (sz:=8) (es:=(a0.map cS_Inks)) 0 3 4 39 (by kernel_rfl) (by kernel_rfl) (by kernel_rfl) (by kernel_rfl) [0] [(0,.d (.sl 8 (a0.map cS_Inks)))] (fun _=>by kernel_rfl) (fun hnil=>?_) ?_
 ·replace hnil:=List.map_eq_nil_iff.1 hnil
  have h:(some [])=some r:=by subst hnil; exact h
  refine T_reg [] [2] [(2,.own 35 8 ([].map cS_Inks))] [] 1 (by kernel_rfl) (trivial) ?_
  obtain hs:=Option.some.inj h; subst hs
  refine T_ret fun a w hm=>then_ret (T_return (fr':=[(2,.own 35 8 ([].map cS_Inks))]) [2] (by kernel_rfl) [.keep [2]] (by kernel_rfl) (by kernel_rfl) (by kernel_rfl) (by show _=_; kernel_rfl) (by exact trivial) a w hm)
 ·skip
  refine T_skip fun a w hm=>then_norm (((?_:T Try.prog e 8 _ _ _) a w hm))
  obtain ⟨hp1,h⟩:=chk_ok h
  refine T_reg [(2,{ es:=some ((([]:List S_Inks)++a0).map cS_Inks) })] [2] [(2,.own 35 8 ((([]:List S_Inks)++a0).map cS_Inks))] [(0,([]:List (List Dat))=[]),(1,(([]:List S_Inks).map cS_Inks).length+(a0.map cS_Inks).length≤4294967296∧(([]:List S_Inks).map cS_Inks)++(a0.map cS_Inks)=((([]:List S_Inks)++a0).map cS_Inks))] 1 (by kernel_rfl) (⟨rfl,app_ok cS_Inks hp1⟩) ?_
  obtain hs:=Option.some.inj h; subst hs
  refine T_ret fun a w hm=>T_return (fr':=[(2,.own 35 8 ((([]:List S_Inks)++a0).map cS_Inks))]) [2] (by kernel_rfl) [.keep [2]] (by kernel_rfl) (by kernel_rfl) (by kernel_rfl) (by show _=_; kernel_rfl) (by exact trivial) a w hm
theorem slices_Clone_uint8_ok {F:Nat} {a0:List UInt8} {r:(List UInt8)} (h:slices_Clone_uint8 F a0=some r):ACall Try.prog 28 [.d (.sl 1 (a0.map cU))] [] (.own 5 1 (r.map cU)) []:=by
 rw [slices_Clone_uint8] at h
 refine ACall.intro (N:=8) Try.func28 rfl rfl rfl rfl rfl fun e=>?_
 refine T_reg [] [0] [] [] 1 (by kernel_rfl) (trivial) ?_
 refine T_seqk ?_
 refine T_nilTest (sz:=1) (es:=(a0.map cU)) 0 3 4 40 (by kernel_rfl) (by kernel_rfl) (by kernel_rfl) (by kernel_rfl) [0] [(0,.d (.sl 1 (a0.map cU)))] (fun _=>by kernel_rfl) (fun hnil=>?_) ?_
 ·replace hnil:=List.map_eq_nil_iff.1 hnil
  have h:(some [])=some r:=by subst hnil; exact h
  refine T_reg [] [2] [(2,.own 5 1 ([].map cU))] [] 1 (by kernel_rfl) (trivial) ?_
  obtain hs:=Option.some.inj h; subst hs
  refine T_ret fun a w hm=>then_ret (T_return (fr':=[(2,.own 5 1 ([].map cU))]) [2] (by kernel_rfl) [.keep [2]] (by kernel_rfl) (by kernel_rfl) (by kernel_rfl) (by show _=_; kernel_rfl) (by exact trivial) a w hm)
 ·skip
  refine T_skip fun a w hm=>then_norm (((?_:T Try.prog e 8 _ _ _) a w hm))
  obtain ⟨hp1,h⟩:=chk_ok h
  refine T_reg [(2,{ es:=some ((([]:List UInt8)++a0).map cU) })] [2] [(2,.own 5 1 ((([]:List UInt8)++a0).map cU))] [(0,([]:List (List Dat))=[]),(1,(([]:List UInt8).map cU).length+(a0.map cU).length≤4294967296∧(([]:List UInt8).map cU)++(a0.map cU)=((([]:List UInt8)++a0).map cU))] 1 (by kernel_rfl) (⟨rfl,app_ok cU hp1⟩) ?_
  obtain hs:=Option.some.inj h; subst hs
  refine T_ret fun a w hm=>T_return (fr':=[(2,.own 5 1 ((([]:List UInt8)++a0).map cU))]) [2] (by kernel_rfl) [.keep [2]] (by kernel_rfl) (by kernel_rfl) (by kernel_rfl) (by show _=_; kernel_rfl) (by exact trivial) a w hm
end Go.Vm.TopG
namespace Go.Vm.TopG
open Go.Proofs
open Go.RowKit
def inkA (v:S_Inks):Array Value:=#[.int .u8 v.f0,.int .u8 v.f1,.int .u8 v.f2,.int .u8 v.f3,.int .u8 v.f4,.int .u8 v.f5,.int .u8 v.f6,.int .u8 v.f7]
def inkV (v:S_Inks):Value:=.agg (inkA v)
theorem bne_f {a b:Int} (h:(a != b)=true):(a == b)=false:=by simpa [bne] using h
theorem bne_t {a b:Int} (h:(a != b)=false):(a == b)=true:=by simpa [bne] using h
set_option maxRecDepth 100000 in
set_option maxHeartbeats 4000000 in
theorem few_at (W:World) (v:S_Inks) (n:Nat) (hn:n≤8):Calls Try.prog 38 #[inkV v,.int .i64 (n:Int)] W fun e w'=>e=.returned (.bool (((inkL v).drop n).all (· == 0)))∧Below W.heap.size W w':=by
  have hb:∀ o,Below W.heap.size W (W.alloc o):=fun o=>(Below.refl _ _).alloc (Nat.le_refl _) o
  unfold inkV inkA
  generalize hv:((inkL v).drop n).all (· == 0)=bv
  obtain rfl | rfl | rfl | rfl | rfl | rfl | rfl | rfl | rfl:n=0∨n=1∨n=2∨n=3∨n=4∨n=5∨n=6∨n=7∨n=8:=by omega
  all_goals
    go_enter Try.func38,Try.ntmps38
    go_wp2
    refine wp_loop_rounds 9 ?_
    repeat
      show Code.wp _ _ _ _ _
      go_wp2
      all_goals (try (rename_i h; go_ret; refine ⟨?_,hb _⟩; rw [← hv]; simp [inkL,bne_f h]; done))
      (try (rename_i h; have h:=bne_t h))
    go_ret
    refine ⟨?_,hb _⟩
    rw [← hv]
    simp_all [inkL]
end Go.Vm.TopG
namespace Go.Vm.TopG
open Go.Proofs
open Go.RowKit
/-- A list of integers,as cells. -/
theorem ints_val {S:Nat→Prop} {W:World} {k:IntKind}:∀ {xs:List Int} {l:List Value} {o:Nat},RCs S W (xs.flatMap (cI k)) (fun j=>l[j]?) o→l.length=o+xs.length→l.drop o=xs.map (.int k)
 | [],l,o,_,h=>by rw [List.drop_eq_nil_of_le (by simp at h; omega)]; rfl
 | x :: xs,l,o,hr,h=>by
  simp only [List.flatMap_cons,cI,List.cons_append,List.nil_append,RCs] at hr
  obtain ⟨⟨u,hu,e,_⟩,h2⟩:=hr
  have hlt:o < l.length:=by simp at h; omega
  have e1:l[o]=u:=by
   have:=List.getElem?_eq_getElem hlt
   rw [this] at hu
   simpa using hu
  rw [List.drop_eq_getElem_cons hlt,e1,e,ints_val (o:=o+1) h2 (by simp at h; omega)]
  rfl
theorem agg_ints {S:Nat→Prop} {W:World} {β:Path→Value} {p:Path} {k:IntKind} {xs:List Int} {u:Value} (h:RFlat S W β p (.agg (xs.flatMap (cI k))) u):u=.agg ⟨xs.map (.int k)⟩:=by
 obtain ⟨l,rfl,hl,hr⟩:=h
 have hlen:(xs.flatMap (cI k)).length=xs.length:=by
  clear hr hl
  induction xs with
  | nil=>rfl
  | cons x r ih=>simp [cI,ih]
 have:=ints_val (o:=0) hr (by rw [hl,hlen]; omega)
 rw [List.drop_zero] at this
 rw [this]
theorem ink_val {S:Nat→Prop} {W:World} {β:Path→Value} {p:Path} {v:S_Inks} {u:Value} (h:RFlat S W β p (.agg (cS_Inks v)) u):u=inkV v:=agg_ints (xs:=inkL v) h
theorem list_few_ok {F:Nat} {a0:S_Inks} {a1:Int} {r:Bool} (h:list_few F a0 a1=some r):ACall Try.prog 38 [.agg (cS_Inks a0),.d (.v (.int .i64 a1))] [] (.d (.v (.bool r))) []:=by
 unfold list_few at h
 obtain ⟨h1,h⟩:=chk_ok h
 cases h
 obtain ⟨n,rfl⟩:∃ n:Nat,a1=(n:Int):=⟨a1.toNat,by omega⟩
 rw [Int.toNat_natCast]
 refine ACall.ofReadsA ⟨_,Try.func38,by kernel_rfl,by kernel_rfl⟩ (fun j=>by cases j <;> rfl) (fun l a e=>by cases e) rfl ?_
 intro w S β us hus hS hrd
 match us,hus with
 | [a,b],_ =>
  have ha:a=inkV a0:=ink_val (β:=β) (p:=(0,0)) (hrd 0 _ a rfl rfl)
  have hb:b=.int .i64 (n:Int):=(hrd 1 _ b rfl rfl).1
  subst ha hb
  refine (few_at w a0 n (by omega)).mono ?_
  rintro e w' ⟨rfl,hbw⟩
  exact ⟨_,rfl,hbw,fun β=>⟨rfl,rfl⟩⟩
end Go.Vm.TopG
namespace Go.Vm.TopG
open Go.Proofs
open Go.RowKit
/-- A contract over data: what is returned,and that nothing that was there turns. -/
theorem belowD {P:Program} {k:Nat} {args:List AV} {us:List Value} {W:World} {res:AV} (h:ACall P k args [] res []) (hlen:us.length=args.length) (hn:args.length < resSlot) (hd:args.all AV.isData=true)
  (hr:All2 (fun _ a u=>RFlat (allS W) W (fun _=>.bool false) (0,0) a u) 0 args us) :
  Calls P k us.toArray W fun e W'=>∃ v S' β',e=.returned v∧RSlot (condG []) S' W' β' resSlot res v∧Below W.heap.size W W':=by
 obtain ⟨hown,hm0⟩:=start_memGs (gs:=[]) hlen hn hd hr (by simp)
 refine (h.2 W (allS W) (gbs []) us hlen hm0).mono fun e W' ⟨u,S',β',he,hm⟩=>?_
 obtain ⟨v,hv1,hv2⟩:=hm.rel resSlot
 have hu:=hv2 u (by simp)
 subst hu
 have hres':fget ((resSlot,res) :: boxFr virtBase []) resSlot=res:=fget_cons_self _ _ _
 rw [hres'] at hv1
 have noA:∀ b,¬ ownedBy (finFr args (gvs [])) (gbs []) b:=by
  rintro b ⟨x,j,hx,_⟩
  rw [hown] at hx
  cases hx
 exact ⟨u,S',β',he,hv1,⟨hm.os,hm.tape,hm.output,hm.size,fun i hi=>hm.old i hi (noA i)⟩⟩
theorem flat_int (W:World) (k:IntKind) (x:Int) (β:Path→Value) (p:Path):RFlat (allS W) W β p (.d (.v (.int k x))) (.int k x):=⟨rfl,rfl⟩
theorem int_res {S:Nat→Prop} {W:World} {β:Path→Value} {k:IntKind} {x:Int} {u:Value} (h:RSlot (condG []) S W β resSlot (.d (.v (.int k x))) u):u=.int k x:=h.1
theorem Near_at (W:World) {F:Nat} {a b r:Int} (h:num_Near F a b=some r):Calls Try.prog 64 #[.int .i64 a,.int .i64 b] W fun e W'=>e=.returned (.int .i64 r)∧Below W.heap.size W W':=by
 refine (belowD (us:=[.int .i64 a,.int .i64 b]) (num_Near_ok h) rfl (show 2 < resSlot by decide) rfl ⟨flat_int ..,flat_int ..,trivial⟩).mono ?_
 rintro e W' ⟨u,S',β',rfl,hu,hb⟩
 rw [int_res hu]
 exact ⟨rfl,hb⟩
def matL (m:S_Matrix):List Int:=[m.f0,m.f1,m.f2,m.f3,m.f4,m.f5]
def matA (m:S_Matrix):Array Value:=#[.int .i64 m.f0,.int .i64 m.f1,.int .i64 m.f2,.int .i64 m.f3,.int .i64 m.f4,.int .i64 m.f5]
def matV (m:S_Matrix):Value:=.agg (matA m)
theorem ints_flat {W:World} {k:IntKind}:∀ (xs:List Int) (l:List Value) (o:Nat),l.drop o=xs.map (.int k)→RCs (allS W) W (xs.flatMap (cI k)) (fun j=>l[j]?) o
 | [],l,o,_=>trivial
 | x :: xs,l,o,h=>by
  have h1:o < l.length:=by
   rcases Nat.lt_or_ge o l.length with h' | h'
   ·exact h'
   ·rw [List.drop_eq_nil_of_le h'] at h; cases h
  rw [List.drop_eq_getElem_cons h1] at h
  simp only [List.map_cons,List.cons.injEq] at h
  simp only [List.flatMap_cons,cI,List.cons_append,List.nil_append,RCs]
  exact ⟨⟨_,by rw [List.getElem?_eq_getElem h1,h.1],rfl,rfl⟩,ints_flat xs l (o+1) h.2⟩
theorem mat_flat (W:World) (m:S_Matrix) (β:Path→Value) (p:Path):RFlat (allS W) W β p (.agg (cS_Matrix m)) (matV m):=⟨_,rfl,rfl,ints_flat (k:=.i64) (matL m) _ 0 rfl⟩
theorem mat_val {S:Nat→Prop} {W:World} {β:Path→Value} {p:Path} {v:S_Matrix} {u:Value} (h:RFlat S W β p (.agg (cS_Matrix v)) u):u=matV v:=agg_ints (xs:=matL v) h
theorem MCheck_at (W:World) {F:Nat} {m:S_Matrix} {r:Int} (h:affine_Check F m=some r):Calls Try.prog 68 #[matV m] W fun e W'=>e=.returned (.int .i64 r)∧Below W.heap.size W W':=by
 refine (belowD (us:=[matV m]) (affine_Check_ok h) rfl (show 1 < resSlot by decide) rfl ⟨mat_flat ..,trivial⟩).mono ?_
 rintro e W' ⟨u,S',β',rfl,hu,hb⟩
 rw [int_res hu]
 exact ⟨rfl,hb⟩
set_option maxRecDepth 100000 in
set_option maxHeartbeats 4000000 in
theorem over_at (W:World) {F:Nat} {s d x r:Int} {p q:Nat} (hp:W.cell? ⟨p,0,none⟩=some (.int .i64 s)) (hq:W.cell? ⟨q,0,none⟩=some (.int .i64 d)) (h:num_Near F (wrap64 (s * x)) d=some r) :
  Calls Try.prog 69 #[.int .i64 x,.pointer (some ⟨p,0,none⟩),.pointer (some ⟨q,0,none⟩)] W fun e W'=>e=.returned (.int .i64 r)∧Below W.heap.size W W':=by
 go_enter Try.func69,Try.ntmps69
 go_wp2_with (go_at_fn 64)
 refine (Near_at _ h).mono ?_
 rintro e w' ⟨rfl,hb⟩
 go_wp2
 go_ret
 exact ⟨rfl,hb⟩
def mat0:S_Matrix:=⟨0,0,0,0,0,0⟩
theorem cell_of {w:World} {b:Nat} {arr:Array Value} {E:TypeId} {fz:Nat×Nat} (h:w.heap[b]? = some (.cells arr E fz)) (i:Nat):w.cell? ⟨b,i,none⟩=arr[i]? := by simp [World.cell?,h]
theorem frz_of {w:World} {b:Nat} {arr:Array Value} {E:TypeId} (h:w.heap[b]? = some (.cells arr E (0,0))) (i:Nat):w.frozen? ⟨b,i,none⟩=false:=by simp [World.frozen?,h]
theorem two_new (W:World) (o p:Obj):((W.alloc o).alloc p).heap[W.heap.size]? = some o∧((W.alloc o).alloc p).heap[W.heap.size+1]? = some p:=by
 refine ⟨?_,?_⟩
 ·rw [Below.heap_alloc _ _ _ (by simp)]
  exact heap_alloc_new W o
 ·have:=heap_alloc_new (W.alloc o) p
  simpa only [World.size_alloc] using this
theorem setCell_get (w:World) (b i:Nat) (u:Value) {arr:Array Value} {E:TypeId} {fz:Nat×Nat} (h:w.heap[b]? = some (.cells arr E fz)):(w.setCell ⟨b,i,none⟩ u).heap[b]? = some (.cells (arr.setIfInBounds i u) E fz):=by
 unfold World.setCell
 simp [Array.getElem?_modify,h]
theorem set6 {w:World} {b:Nat} {a0 a1 a2 a3 a4 a5:Value} {E:TypeId} (h:w.heap[b]? = some (.cells #[a0,a1,a2,a3,a4,a5] E (0,0))) (v0 v1 v2 v3 v4 v5:Value) :
  ((((((w.setCell ⟨b,0,none⟩ v0).setCell ⟨b,1,none⟩ v1).setCell ⟨b,2,none⟩ v2).setCell ⟨b,3,none⟩ v3).setCell ⟨b,4,none⟩ v4).setCell ⟨b,5,none⟩ v5).heap[b]? = some (.cells #[v0,v1,v2,v3,v4,v5] E (0,0)) :=
 setCell_get _ _ _ _ (setCell_get _ _ _ _ (setCell_get _ _ _ _ (setCell_get _ _ _ _ (setCell_get _ _ _ _ (setCell_get _ _ _ _ h)))))
theorem below6 {B:Nat} {W w:World} {b:Nat} (h:Below B W w) (hb:B≤b) (v0 v1 v2 v3 v4 v5:Value) :
  Below B W ((((((w.setCell ⟨b,0,none⟩ v0).setCell ⟨b,1,none⟩ v1).setCell ⟨b,2,none⟩ v2).setCell ⟨b,3,none⟩ v3).setCell ⟨b,4,none⟩ v4).setCell ⟨b,5,none⟩ v5) :=
 (((((h.setCell hb _).setCell hb _).setCell hb _).setCell hb _).setCell hb _).setCell hb _
theorem ret_mat {R:Ending→World→Prop} {w:World} {b:Nat} {v0 v1 v2 v3 v4 v5 e:Value} {a:Act} (h:w.heap[b]? = some (.cells #[v0,v1,v2,v3,v4,v5] 42 (0,0))) (h2:a.tmps.getD 2 undef=.pointer (some ⟨b,0,none⟩)) (h3:a.tmps.getD 3 undef=e) (hd:a.defers=[])
  (hR:R (.returned (.tuple #[.agg #[v0,v1,v2,v3,v4,v5],e])) w):bodyPost Try.prog Try.f53 R .ret a w:=by
 have q0:w.cell? ⟨b,0,none⟩=some v0:=by rw [cell_of h]; rfl
 have q1:w.cell? ⟨b,1,none⟩=some v1:=by rw [cell_of h]; rfl
 have q2:w.cell? ⟨b,2,none⟩=some v2:=by rw [cell_of h]; rfl
 have q3:w.cell? ⟨b,3,none⟩=some v3:=by rw [cell_of h]; rfl
 have q4:w.cell? ⟨b,4,none⟩=some v4:=by rw [cell_of h]; rfl
 have q5:w.cell? ⟨b,5,none⟩=some v5:=by rw [cell_of h]; rfl
 refine bodyPost_ret (v:=.tuple #[.agg #[v0,v1,v2,v3,v4,v5],e]) ?_ hd hR
 rw [results_cell_tmp (show Try.f53.results=#[.cell 2 42,.tmp 3] by kernel_rfl),h2,h3]
 simp [go_sem,q0,q1,q2,q3,q4,q5]
set_option maxRecDepth 100000 in
set_option maxHeartbeats 4000000 in
theorem Invert_bad (W:World) {F:Nat} {m:S_Matrix} {e1:Int} (he1:affine_Check F m=some e1) (hne:¬ e1=0):Calls Try.prog 53 #[matV m] W fun e W'=>e=.returned (.tuple #[.agg #[.int .i64 0,.int .i64 0,.int .i64 0,.int .i64 0,.int .i64 0,.int .i64 0],.int .i64 e1])∧Below W.heap.size W W':=by
 have h0:∀ o p,Below W.heap.size W ((W.alloc o).alloc p):=fun o p=>((Below.refl _ _).alloc (Nat.le_refl _) o).alloc (by simp) p
 unfold matV matA
 go_enter Try.func53,Try.ntmps53
 go_wp2_with (go_at_fn 68)
 refine (MCheck_at _ he1).mono ?_
 rintro e w1 ⟨rfl,hb1⟩
 obtain ⟨hA,hR⟩:=two_new W (.cells #[.int .i64 m.f0,.int .i64 m.f1,.int .i64 m.f2,.int .i64 m.f3,.int .i64 m.f4,.int .i64 m.f5] 42 (0,0)) (.cells #[.int .i64 0,.int .i64 0,.int .i64 0,.int .i64 0,.int .i64 0,.int .i64 0] 42 (0,0))
 have hR1:=(hb1.block _ (heap_lt hR)).trans hR
 have hRc:=cell_of hR1
 have hRf:=frz_of hR1
 have hB1:=(h0 _ _).trans (hb1.mono (h0 _ _).size)
 go_wp2
 have hF:=set6 hR1 (.int .i64 0) (.int .i64 0) (.int .i64 0) (.int .i64 0) (.int .i64 0) (.int .i64 0)
 have hb9:=below6 hB1 (Nat.le_succ W.heap.size) (.int .i64 0) (.int .i64 0) (.int .i64 0) (.int .i64 0) (.int .i64 0) (.int .i64 0)
 revert hF hb9
 generalize World.setCell (World.setCell (World.setCell (World.setCell (World.setCell (World.setCell _ _ _) _ _) _ _) _ _) _ _) _ _=wF
 intro hF hb9
 exact ret_mat hF rfl rfl rfl ⟨rfl,hb9⟩
end Go.Vm.TopG
