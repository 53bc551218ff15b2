import Derived.Test.YtflaiaeofndgmaaDoorArcP
import Derived.Test.YtflaiaeofndgmaaDoorVmD
import Derived.Carry
namespace Go.Vm.ArcG
open Go.Proofs
open Go.RowKit Go.Shelf
/-- A contract over data and a package's variables: what is returned,and that nothing that was there turns. -/
theorem belowGs {P:Program} {k:Nat} {gs:Glos} {args:List AV} {us:List Value} {W:World} {res:AV} (h:ACall P k args (gvs gs) res (gvs gs)) (hlen:us.length=args.length) (hn:args.length < resSlot) (hd:args.all AV.isData=true)
    (hr:All2 (fun _ a u=>RFlat (allS W) W (fun _=>.bool false) (0,0) a u) 0 args us) (hg:∀ g∈gs,GloAt (allS W) W g.1 g.2) :
    Calls P k us.toArray W fun e W'=>∃ v S' β',e=.returned v∧RSlot (condG []) S' W' β' resSlot res v∧Below W.heap.size W W'∧∀ i b,res.ownsAt i=true→blk (β' (resSlot,i))=some b→W.heap.size≤b:=by
  obtain ⟨hown,hm0⟩:=start_memGs hlen hn hd hr hg
  refine (h.2 W (allS W) (gbs gs) us hlen hm0).mono fun e W' ⟨u,S',β',he,hm⟩=>?_
  obtain ⟨v,hv1,hv2⟩:=hm.rel resSlot
  have hu:=hv2 u (by simp)
  subst hu
  have hres:fget ((resSlot,res) :: boxFr virtBase (gvs gs)) resSlot=res:=fget_cons_self _ _ _
  rw [hres] at hv1
  have noA:∀ b,¬ ownedBy (finFr args (gvs gs)) (gbs gs) b:=by
    rintro b ⟨x,j,hx,_⟩
    rw [hown] at hx
    cases hx
  refine ⟨u,S',β',he,hv1,⟨hm.os,hm.tape,hm.output,hm.size,fun i hi=>hm.old i hi (noA i)⟩,fun i b hi hb=>?_⟩
  rcases (hm.fre resSlot i b (by rw [hres]; exact hi) hb).2 with h' | h'
  · exact h'
  · exact (noA b h').elim
theorem plain_at (W:World) {F:Nat} {s:List UInt8} {r:Bool} (h:archive_plain F s=some r):Calls Tryd.prog 14 #[strOf s] W fun e W'=>e=.returned (.bool r)∧Below W.heap.size W W' :=
  ACall.below (archive_plain_ok h) (us:=[strOf s]) (u:=.bool r) rfl (show 1 < resSlot by decide) rfl W
theorem Clone_at (W:World) {F:Nat} {s r:List UInt8} (h:strings_Clone F s=some r):Calls Tryd.prog 24 #[strOf s] W fun e W'=>e=.returned (strOf r)∧Below W.heap.size W W' :=
  ACall.below (strings_Clone_ok h) (us:=[strOf s]) (u:=strOf r) rfl (show 1 < resSlot by decide) rfl W
theorem Sum_at (W:World) (hg:GloAt (allS W) W 0 (glob_filter_steps.flatMap (cI .u32))) {F:Nat} {s:List UInt8} {r:Int} (h:filter_Sum F s=some r):Calls Tryd.prog 22 #[strOf s] W fun e W'=>e=.returned (.int .u32 r)∧Below W.heap.size W W':=by
  refine (belowGs (gs:=[(0,glob_filter_steps.flatMap (cI .u32))]) (us:=[strOf s]) (filter_Sum_ok h) rfl (show 1 < resSlot by decide) rfl ⟨rfl,trivial⟩ (by simpa using hg)).mono ?_
  rintro e W' ⟨v,S',β',rfl,hv,hb,_⟩
  have hv':v=.int .u32 r:=hv.1
  rw [hv']
  exact ⟨rfl,hb⟩
/-- Where a new row of numbers lies. -/
def RowI (w:World) (B:Nat) (v:Value) (l:List Int):Prop:=∃ b off c arr E fz,v=.slice (some ⟨b,off,none⟩) l.length c∧B≤b∧w.heap[b]? = some (.cells arr E fz)∧∀ i,i < l.length→arr[off+i]? = some (.int .i64 (l.getD i 0))
theorem Cuts_at (W:World) {F:Nat} {s:List UInt8} {l:List Int} {n:Int} (h:archive_Cuts F s=some (l,n)) (hl:l≠[]):Calls Tryd.prog 5 #[strOf s] W fun e W'=>∃ v,e=.returned (.tuple ⟨[v,.int .i64 n]⟩)∧RowI W' W.heap.size v l∧Below W.heap.size W W':=by
  refine (belowGs (gs:=[]) (us:=[strOf s]) (archive_Cuts_ok h) rfl (show 1 < resSlot by decide) rfl ⟨rfl,trivial⟩ (by simp)).mono ?_
  rintro e W' ⟨v,S',β',rfl,hv,hb,hfr⟩
  obtain ⟨vs,rfl,_,hp⟩:=hv
  match vs,hp with
  | [a,b],hp =>
    obtain ⟨h1,h2,_⟩:=hp
    have e2:b=.int .i64 n:=h2.1
    subst e2
    refine ⟨a,rfl,?_,hb⟩
    obtain ⟨h3,h4⟩:=h1
    rcases h4 with ⟨_,h5⟩ | ⟨b,off,c,arr,E,fz,h5,h6,h7,h8,h9,h10,h11⟩
    · exact absurd (List.map_eq_nil_iff.1 h5) hl
    · refine ⟨b,off,c,arr,E,fz,by rw [h5,List.length_map],hfr 1 b rfl (by rw [← h3,h5]; rfl),h9,fun i hi=>?_⟩
      obtain ⟨_,h12⟩:=REs.get _ off i [Dat.v (.int .i64 (l.getD i 0))] h11 (by simp [cI,List.getD_eq_getElem?_getD,List.getElem?_eq_getElem hi])
      obtain ⟨u,h13,h14⟩:=RCs.get _ _ 0 _ h12 rfl
      have e3:u=.int .i64 (l.getD i 0):=h14.1
      simpa [e3] using h13
  | [],hp=>exact hp.elim
  | [_],hp=>exact hp.2.elim
  | _ :: _ :: _ :: _,hp=>exact hp.2.2.elim
theorem Cuts_x:archive_Cuts 100 [120]=some ([1],0):=by decide +kernel
theorem Cuts_20:archive_Cuts 100 [116,119,101,110,116,121,32,98,121,116,101,115,32,111,102,32,100,97,116,97]=some ([20],0):=by decide +kernel
theorem plain_a:archive_plain 100 [97]=some true:=by decide +kernel
theorem Sum_x:filter_Sum 100 [120]=some 2363233923:=by decide +kernel
theorem Clone_x:strings_Clone 100 [120]=some [120]:=by decide +kernel
theorem New_at (W:World):Calls Tryd.prog 8 #[] W fun e W'=>e=.returned (.pointer (some ⟨W.heap.size+2,0,none⟩))∧W'=((W.alloc (.map #[] 0)).alloc (.map #[] 0)).alloc (.cells #[.map (some W.heap.size),.map (some (W.heap.size+1)),.slice none 0 0] 43 (0,0)):=by
  have hmm:=@run_makeMap Tryd.prog
  go_enter Tryd.func8,Tryd.ntmps8
  go_wp2
  go_ret
  exact ⟨rfl,rfl⟩
end Go.Vm.ArcG
