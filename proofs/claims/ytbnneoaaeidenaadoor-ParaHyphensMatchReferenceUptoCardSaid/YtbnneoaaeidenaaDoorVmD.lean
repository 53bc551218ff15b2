/-
  THE V-MACHINE,text D: VmOpen,VmRecOpen,VmBuild,VmPlain,VmGlob,VmShelf,VmGlobs,VmBits,VmUpto,VmReads,VmShaped.
-/
import Derived.Test.YtbnneoaaeidenaaDoorVmC
import Derived.Lib.Builder
import Derived.Lib.UnsafeStr
import Derived.Below
import Derived.LaidMore
import Derived.MakeChecks
import Derived.OpenShut
import Derived.Lib.LaidTab
import Derived.JoinedCond
import Derived.HandedShaped
import Derived.Handed
import Derived.Shelf.Vars
namespace Go.Vm
open Go.ChangeShapes Go.RowKit Go.WideShapes
def Opens {α:Type} (P:Program) (t:TypeId) (enc:α→List Dat) (Q:α→Prop):Prop :=
  ∀ (H:Type) (en:TypeId×Value→H) (W:World) (n:Nat) (cs:List Value) (x:DataW H×List MemPlace),
    DataW.trod en P W 0 (fun _=>true) true n t cs=some x→∃ a,Q a∧cs.length=(enc a).length∧RCs (allS W) W (enc a) (fun j=>cs[j]?) 0
section
variable {P:Program} {t:TypeId}
theorem opens_str (ht:P.underlying t=some .string):Opens P t cS (fun l=>l.length≤maxLen):=by
  intro H en W n cs x h
  obtain ⟨a,rfl,rfl,hw⟩:=DataW.trod_string ht h
  exact ⟨a.data.toList,by show a.data.toList.length≤maxLen; rw [Array.length_toList]; exact hw,rfl,by simp only [cS,RCs,RD,strOf]; exact ⟨⟨_,rfl,rfl⟩,trivial⟩⟩
theorem lists_of {α:Type} {R:Nat→α→Prop}:∀ (n:Nat),(∀ i,i < n→∃ a,R i a)→∃ l:List α,l.length=n∧∀ i a,l[i]? = some a→R i a
  | 0,_=>⟨[],rfl,fun i a h=>by simp at h⟩
  | n+1,h=>by
    obtain ⟨l,h1,h2⟩:=lists_of n (fun i hi=>h i (by omega))
    obtain ⟨a,ha⟩:=h n (by omega)
    refine ⟨l++[a],by simp [h1],fun i b hb=>?_⟩
    rcases Nat.lt_or_ge i n with hi | hi
    · rw [List.getElem?_append_left (by omega)] at hb
      exact h2 i b hb
    · rw [List.getElem?_append_right (by omega),h1] at hb
      have hi0:i - n=0:=by
        rcases Nat.eq_zero_or_pos (i - n) with h0 | h0
        · exact h0
        · rw [List.getElem?_eq_none (by simp; omega)] at hb
          cases hb
      rw [hi0] at hb
      simp at hb
      have:i=n:=by omega
      subst this
      subst hb
      exact ha
theorem cells_at {W:World} {a:Addr} {n:Nat} {cs:List Value} (h:W.cells? 0 a n=some cs) (hn:0 < n):a.spot=none∧cs.length=n∧∃ arr E fz,W.heap[a.block]? = some (.cells arr E fz)∧∀ j,j < n→arr[a.off+j]? = cs[j]? := by
  unfold World.cells? at h
  rw [if_pos (Nat.zero_le _)] at h
  have hl:cs.length=n:=by simpa using mapM_some_length h
  have hg:∀ j,j < n→W.cell? (a.add j)=cs[j]? := fun j hj=>mapM_some_get h j j (by simp [hj])
  have h0:=hg 0 hn
  rw [List.getElem?_eq_getElem (by omega)] at h0
  simp only [Addr.add,if_true,World.cell?] at h0
  split at h0
  · rename_i arr E fz hb
    split at h0
    · cases h0
    · rename_i hs
      have hs':a.spot=none:=by simpa using hs
      refine ⟨hs',hl,arr,E,fz,hb,fun j hj=>?_⟩
      have:=hg j hj
      rw [← this]
      by_cases hj0:j=0
      · subst hj0
        simp [World.cell?,Addr.add,hb,hs']
      · simp [World.cell?,Addr.add,hb,hj0]
  · cases h0
theorem opens_slice {α:Type} {e:TypeId} {enc:α→List Dat} {Q:α→Prop} {sz:Nat} (ht:P.underlying t=some (.slice e)) (hsz:P.cellsOf e=sz) (h0:0 < sz) (he:Opens P e enc Q):Opens P t (cL sz enc) (fun l=>l.length≤maxLen∧∀ a∈l,Q a):=by
  intro H en W n cs x h
  rcases DataW.trod_slice ht h with ⟨rfl,rfl⟩ | ⟨a,len,cap,elems,rest,m,_,rfl,rfl,_,hlc,hcm,hlen,hel,hsp,_⟩
  · refine ⟨[],⟨Nat.zero_le _,by simp⟩,rfl,?_⟩
    simp only [cL,List.map_nil,RCs,and_true]
    exact ⟨_,rfl,by unfold RD; exact .inl ⟨⟨_,rfl⟩,rfl⟩⟩
  · obtain ⟨hrl,hre⟩:=hsp rfl
    rw [hsz] at hel hre
    have each:∀ i,i < len→∃ y,Q y∧(enc y).length=sz∧∃ cs',W.cells? 0 (a.add (i * sz)) sz=some cs'∧RCs (allS W) W (enc y) (fun j=>cs'[j]?) 0:=by
      intro i hi
      have h1:=hel i hi
      rw [List.getElem?_eq_getElem (by omega),Option.bind_eq_some_iff] at h1
      obtain ⟨cs',h2,h3⟩:=h1
      obtain ⟨y,hq,hl,hr⟩:=he H en W _ _ _ h3
      exact ⟨y,hq,by rw [← hl,(cells_at h2 h0).2.1],cs',h2,hr⟩
    obtain ⟨l,hll,hl⟩:=lists_of len each
    have hadd:∀ i,a.spot=none→a.add i=⟨a.block,a.off+i,none⟩:=by
      intro i hs
      obtain ⟨b,o,s⟩:=a
      simp only at hs
      subst hs
      simp only [Addr.add]
      split
      · rename_i hi; subst hi; rfl
      · rfl
    refine ⟨l,⟨by omega,fun y hy=>?_⟩,rfl,?_⟩
    · obtain ⟨i,hi,rfl⟩:=List.getElem_of_mem hy
      exact (hl i _ (List.getElem?_eq_getElem hi)).1
    · simp only [cL,RCs,and_true]
      refine ⟨_,rfl,?_⟩
      unfold RD
      by_cases hc:cap=0
      · left
        have:len=0:=by omega
        subst hc
        subst this
        exact ⟨⟨_,rfl⟩,by rw [List.eq_nil_of_length_eq_zero hll]; rfl⟩
      · right
        have first:∃ cs',W.cells? 0 (a.add 0) sz=some cs':=by
          rcases Nat.eq_zero_or_pos len with hz | hp
          · have h1:=hre 0 (by omega)
            rw [List.getElem?_eq_getElem (by omega),Option.bind_eq_some_iff] at h1
            obtain ⟨cs',h2,_⟩:=h1
            rw [hz] at h2
            simp only [Nat.zero_add,Nat.zero_mul] at h2
            exact ⟨cs',h2⟩
          · obtain ⟨_,_,_,cs',h2,_⟩:=each 0 hp
            simp only [Nat.zero_mul] at h2
            exact ⟨cs',h2⟩
        obtain ⟨cs0,hf⟩:=first
        rw [show a.add 0=a from rfl] at hf
        obtain ⟨hspot,_,arr,E,fz,hb,_⟩:=cells_at hf h0
        refine ⟨a.block,a.off,cap,arr,E,fz,?_,by simp [hll]; omega,?_,hb,REs.of_get _ _ fun j d hd=>?_⟩
        · rw [List.length_map,hll,show (⟨a.block,a.off,none⟩:Addr)=a.add 0 from (hadd 0 hspot).symm]
          rfl
        · exact (Array.getElem?_eq_some_iff.1 hb).1
        · rw [List.getElem?_map,Option.map_eq_some_iff] at hd
          obtain ⟨y,hy,rfl⟩:=hd
          obtain ⟨_,h1,cs',h2,h3⟩:=hl j y hy
          refine ⟨h1,RCs.congr _ 0 _ (fun i hi=>?_) h3⟩
          obtain ⟨_,_,arr',E',fz',hb',hg⟩:=cells_at h2 h0
          rw [hadd _ hspot] at hb' hg
          simp only at hb' hg
          rw [hb] at hb'
          cases hb'
          rw [hg i (by omega),Nat.zero_add]
theorem Opens.map {α γ:Type} {enc:α→List Dat} {enc':γ→List Dat} {Q:α→Prop} {Q':γ→Prop} (h:Opens P t enc Q) (f:α→γ) (he:∀ a,enc' (f a)=enc a) (hq:∀ a,Q a→Q' (f a)):Opens P t enc' Q':=by
  intro H en W n cs x hx
  obtain ⟨a,h1,h2,h3⟩:=h H en W n cs x hx
  exact ⟨f a,hq a h1,by rw [he]; exact h2,by rw [he]; exact h3⟩
def OpensArgs {β:Type} (P:Program) (ts:List TypeId) (av:β→List AV) (Q:β→Prop):Prop :=
  ∀ (H:Type) (en:TypeId×Value→H) (W:World) (base:Nat) (vs:List Value) (ds:List (DataW H)) (ps:List MemPlace),
    (∀ (j:Nat) t v,ts[j]? = some t→vs[j]? = some v→Value.okWide P W .any base t v)→DataW.TrodAll en P W 0 (fun _=>true) true ts vs ds ps →
    ∃ b,Q b∧vs.length=(av b).length∧(av b).all AV.isData=true∧∀ i,All2 (fun _ a u=>RFlat (allS W) W (fun _=>.bool false) (0,0) a u) i (av b) vs
theorem opensArgs_nil (P:Program):OpensArgs P [] (fun _:Unit=>[]) (fun _=>True):=by
  intro H en W base vs ds ps _ h
  cases vs with
  | nil=>exact ⟨(),trivial,rfl,rfl,fun _=>by simp [All2]⟩
  | cons v vs=>exact h.elim
def plainType (P:Program) (t:TypeId):Bool:=match P.underlying t with
  | some (.struct _) | some (.array _ _)=>false
  | _=>true
theorem okWide_one {r:Reach} {b0:Nat} {W:World} {v:Value} (h:plainType P t=true) (ho:Value.okWide P W r b0 t v):v.cells=#[v]:=by
  unfold plainType at h
  unfold Value.okWide at ho
  split at ho
  · rename_i hu; rw [hu] at h; cases h
  · rename_i hu; rw [hu] at h; cases h
  · cases v <;> try rfl
    exfalso
    unfold Cell.okWide at ho
    split at ho <;> try contradiction
    unfold Cell.ok at ho
    split at ho <;> contradiction
theorem opensArgs_flat {α β:Type} {ts:List TypeId} {x:α→Dat} {enc:α→List Dat} {av:β→List AV} {Q:α→Prop} {Qs:β→Prop} (hp:plainType P t=true) (he:∀ a,enc a=[x a]) (h:Opens P t enc Q) (hs:OpensArgs P ts av Qs) :
    OpensArgs P (t :: ts) (fun z:α×β=>.d (x z.1) :: av z.2) (fun z=>Q z.1∧Qs z.2):=by
  intro H en W base vs ds ps hok hd
  cases vs with
  | nil=>exact hd.elim
  | cons v vs =>
    cases ds with
    | nil=>exact hd.elim
    | cons d ds =>
      obtain ⟨p,q,⟨n,h1⟩,h2,_⟩:=hd
      obtain ⟨b,h3,h4,h5,h6⟩:=hs H en W base vs ds q (fun j t' v' ht hv=>hok (j+1) t' v' (by simpa using ht) (by simpa using hv)) h2
      obtain ⟨a,h7,h8,h9⟩:=h H en W n _ _ h1
      rw [okWide_one hp (hok 0 t v rfl rfl),he] at h9
      simp only [RCs,and_true] at h9
      obtain ⟨u,hu,hr⟩:=h9
      have hu:v=u:=by simpa using hu
      subst hu
      refine ⟨(a,b),⟨h7,h3⟩,by simp [h4],by simpa [AV.isData] using h5,fun i=>?_⟩
      simp only [All2]
      exact ⟨hr,h6 _⟩
theorem KeptAll.below {W W':World} (h:KeptAll W W'):W.keptBut W' (fun _=>False):=h.but _
theorem KeptAll.same {W W':World} (h:KeptAll W W') {p:MemPlace} (hp:p.block < W.heap.size):W.sameAt W' p:=by
  cases p with
  | cell b o=>exact World.cell?_of_block (w:=W) (h.heap b hp)
  | map b=>exact h.heap b hp
theorem TrodAll_kept {H:Type} {en:TypeId×Value→H} {W W':World} (hl:laidOutB P=true) (hk:KeptAll W W') (sp:Nat→Bool):∀ {ts:List TypeId} {vs:List Value} {ds:List (DataW H)} {ps:List MemPlace},
    (ts.all fun t=>P.readableRec t && decide (t < P.types.size))=true→DataW.TrodAll en P W 0 (fun _=>true) true ts vs ds ps→(∀ p∈ps,p.block < W.heap.size)→(∀ p∈ps,sp p.block=true)→DataW.TrodAll en P W' 0 sp true ts vs ds ps
  | [],[],[],_,_,h,_,_=>h
  | [],[],_ :: _,_,_,h,_,_=>h.elim
  | [],_ :: _,_,_,_,h,_,_=>h.elim
  | _ :: _,[],_,_,_,h,_,_=>h.elim
  | _ :: _,_ :: _,[],_,_,h,_,_=>h.elim
  | t :: ts,v :: vs,d :: ds,ps,hr,h,hlt,hsp=>by
    obtain ⟨p,q,h1,h2,rfl⟩:=h
    simp only [List.all_cons,Bool.and_eq_true,decide_eq_true_eq] at hr
    refine ⟨p,q,WideElems.Trod_stays hl hr.1.1 hr.1.2 h1 (fun x hx=>hk.same (hlt x (by simp [hx]))) (fun x hx=>hsp x (by simp [hx])),TrodAll_kept hl hk sp hr.2 h2 (fun x hx=>hlt x (by simp [hx])) (fun x hx=>hsp x (by simp [hx])),rfl⟩
end
end Go.Vm
namespace Go.Vm
open Go.ChangeShapes Go.RowKit Go.WideShapes
def OpensB {α:Type} (b:Nat) (P:Program) (t:TypeId) (enc:α→List Dat) (Q:α→Prop):Prop :=
  ∀ (H:Type) (en:TypeId×Value→H) (W:World) (n:Nat) (cs:List Value) (x:DataW H×List MemPlace),
    n < b→DataW.trod en P W 0 (fun _=>true) true n t cs=some x→∃ a,Q a∧cs.length=(enc a).length∧RCs (allS W) W (enc a) (fun j=>cs[j]?) 0
section
variable {P:Program} {t:TypeId}
theorem OpensB.mono {α:Type} {enc:α→List Dat} {Q:α→Prop} {b b':Nat} (h:OpensB b P t enc Q) (hb:b'≤b):OpensB b' P t enc Q:=fun H en W n cs x hn hx=>h H en W n cs x (by omega) hx
theorem OpensB.map {α γ:Type} {b:Nat} {enc:α→List Dat} {enc':γ→List Dat} {Q:α→Prop} {Q':γ→Prop} (h:OpensB b P t enc Q) (f:α→γ) (he:∀ a,enc' (f a)=enc a) (hq:∀ a,Q a→Q' (f a)):OpensB b P t enc' Q':=by
  intro H en W n cs x hn hx
  obtain ⟨a,h1,h2,h3⟩:=h H en W n cs x hn hx
  exact ⟨f a,hq a h1,by rw [he]; exact h2,by rw [he]; exact h3⟩
end
end Go.Vm
namespace Go.Vm
open Go.RowKit (Below)
def cU (x:UInt8):List Dat:=[.v (.int .u8 (x.toNat:Int))]
theorem cU_ofInt {v:Int} (h:0≤v∧v < 256):[Dat.v (.int .u8 v)]=cU (UInt8.ofNat v.toNat):=by
  obtain ⟨k,rfl⟩:=Int.eq_ofNat_of_zero_le h.1
  have:k < 256:=by omega
  simp only [cU,Int.toNat_natCast,UInt8.toNat_ofNat']
  rw [Nat.mod_eq_of_lt (by omega)]
theorem lit_u {v:Int} {rs:List (List Dat)} {r:List UInt8} (h:0≤v∧v < 256) (hr:rs=r.map cU):[Dat.v (.int .u8 v)] :: rs=(UInt8.ofNat v.toNat :: r).map cU:=by
  rw [cU_ofInt h,hr]; rfl
section
variable {P:Program} {e:Env} {S:Nat→Prop} {β:Path→Value} {fr:Fr} {vals:Nat→Option Value} {w:World}
theorem Mem.toRes (hm:Mem e [] S β fr vals w) {vout:List AV} (hv:∀ j a,vout[j]? = some a→fget fr (virtBase+j)=a∧a.backOk=true) {res:AV} {u:Value} (hres:∀ β',RSlot (condG []) S w β' resSlot res u) (hown:∀ j,res.ownsAt j=false) (hgd:res.noGd=true)
    {L:Nat→Option Value} (hL:∀ x u',virtBase≤x→L x=some u'→vals x=some u'):Mem e [] S β ((resSlot,res) :: boxFr virtBase vout) (fun x=>if x=resSlot then some u else L x) w:=by
  have hat:∀ x,x≠resSlot→(∃ j a,x=virtBase+j∧vout[j]? = some a∧fget ((resSlot,res) :: boxFr virtBase vout) x=a)∨fget ((resSlot,res) :: boxFr virtBase vout) x=.junk:=by
    intro x hx
    rw [fget_cons_ne _ _ (Ne.symm hx),fget_boxFr]
    split
    · rename_i hc
      left
      refine ⟨x - virtBase,vout.getD (x - virtBase) .junk,by omega,?_,rfl⟩
      rw [List.getD_eq_getElem?_getD,List.getElem?_eq_getElem (by omega)]
      rfl
    · exact .inr rfl
  have hsrc:∀ x i,(fget ((resSlot,res) :: boxFr virtBase vout) x).ownsAt i=true→(fget fr x).ownsAt i=true:=by
    intro x i ho
    by_cases hx:x=resSlot
    · subst hx; rw [fget_cons_self,hown] at ho; cases ho
    · rcases hat x hx with ⟨j,a,rfl,ha,hf⟩ | hf
      · rw [hf] at ho; rw [(hv j a ha).1]; exact ho
      · rw [hf] at ho; cases i <;> simp [AV.ownsAt,AV.isOwn] at ho
  refine ⟨fun x=>?_,fun x l av h=>?_,fun x i y j b h1 h2=>hm.dis x i y j b (hsrc x i h1) (hsrc y j h2),fun x i b h1=>hm.fre x i b (hsrc x i h1),hm.stb,hm.s0,hm.old,hm.os,hm.tape,hm.output,hm.size⟩
  · by_cases hx:x=resSlot
    · subst hx
      exact ⟨u,by rw [fget_cons_self]; exact hres β,fun u' h=>by simpa using h.symm⟩
    · rcases hat x hx with ⟨j,a,rfl,ha,hf⟩ | hf
      · obtain ⟨u0,hr,hu⟩:=hm.rel (virtBase+j)
        rw [(hv j a ha).1] at hr
        refine ⟨u0,by rw [hf]; exact hr,fun u' h=>hu u' ?_⟩
        rw [if_neg hx] at h
        exact hL _ _ (by omega) h
      · refine ⟨(L x).getD undef,by rw [hf]; exact trivial,fun u' h=>?_⟩
        rw [if_neg hx] at h
        simp [h]
  · by_cases hx:x=resSlot
    · subst hx; rw [fget_cons_self] at h; rw [h] at hgd; cases hgd
    · rcases hat x hx with ⟨j,a,rfl,ha,hf⟩ | hf
      · have:=back_noGd (hv j a ha).2
        rw [hf] at h; rw [h] at this; cases this
      · rw [hf] at h; cases h
theorem bp_fin {off:Nat} {vin:List AV} {us:List Value} (hus:us.length=1) (hm:Mem e [] S β (finFr [.bp virtBase off] vin) (fun x=>(us[x]?).or (lentAt β vin.length x)) w):∃ b,us=[.pointer (some ⟨b,off,none⟩)]∧β (virtBase,0)=.pointer (some ⟨b,0,none⟩):=by
  match us,hus with
  | [u],_ =>
    obtain ⟨u0,hr,hu⟩:=hm.rel 0
    rw [fget_finFr_arg (by simp)] at hr
    have:=hu u (by simp)
    subst this
    obtain ⟨b,h1,h2⟩:=(flat_slot rfl).1 hr
    exact ⟨b,by rw [h2],h1⟩
theorem box_fin {args:List AV} {cs:List AV} {_us:List Value} (hal:args.length < resSlot) (hm:Mem e [] S β (finFr args [.box cs]) vals w) {b:Nat} (hb:β (virtBase,0)=.pointer (some ⟨b,0,none⟩)) :
    ∃ l E,w.heap[b]? = some (.cells ⟨l⟩ E (0,0))∧RParts S w β virtBase cs l:=by
  obtain ⟨u0,hr,_⟩:=hm.rel virtBase
  have hf:fget (finFr args [.box cs]) virtBase=.box cs:=by
    have:=fget_finFr_virt (vin:=[.box cs]) (j:=0) hal
    simpa using this
  rw [hf] at hr
  obtain ⟨h0,b',l,E,h1,h2,h3⟩:=hr
  rw [← h0,h1] at hb
  simp only [Value.pointer.injEq,Option.some.injEq,Addr.mk.injEq] at hb
  obtain ⟨rfl,_⟩:=hb
  exact ⟨l,E,h2,h3⟩
theorem lent_virt {us:List Value} {n:Nat} (h:us.length≤virtBase) {x:Nat} {u':Value} (hx:virtBase≤x) (hl:lentAt β n x=some u'):((us[x]?).or (lentAt β n x))=some u':=by
  rw [List.getElem?_eq_none (by omega)]
  simpa using hl
theorem ACall.copyCheck {k tb:Nat} (hk:Callable P k)
    (used:∀ (b off:Nat) (w:World),w.cell? ⟨b,off,none⟩=some (.pointer (some ⟨b,off,none⟩))→Calls P k #[.pointer (some ⟨b,off,none⟩)] w fun e w'=>e=.returned (.tuple #[])∧w'=w)
    (fresh:∀ (b off E n:Nat) (w:World),w.cell? ⟨b,off,none⟩=some (.pointer none)→w.shape? b=some (E,n)→off < n→liesAt P P.depth E (n / P.cellsOf E) off tb 1=true→w.frozen? ⟨b,off,none⟩=false →
      Calls P k #[.pointer (some ⟨b,off,none⟩)] w fun e w'=>e=.returned (.tuple #[])∧w'=w.setCell ⟨b,off,none⟩ (.pointer (some ⟨b,off,none⟩)))
    {off E:Nat} {cs:List AV} (hc:cs[off]? = some (.slf off E)) (hlies:liesAt P P.depth E (cs.length / P.cellsOf E) off tb 1=true) (hb:(AV.box cs).backOk=true) :
    ACall P k [.bp virtBase off] [.box cs] (.tup []) [.box cs]:=by
  refine ⟨hk,fun w S β us hus hm=>?_⟩
  obtain ⟨b,rfl,hβ⟩:=bp_fin (by simpa using hus) hm
  obtain ⟨l,E',hb',hparts⟩:=box_fin (_us:=[]) (by simp [resSlot]) hm hβ
  have hlen:l.length=cs.length:=(All2.len hparts).symm
  obtain ⟨c,hcl,hrc⟩:=All2.get hparts off _ hc
  obtain ⟨_,hty,hcase⟩:=hrc
  have hE:E'=E:=by
    rw [hβ] at hty
    simp only [tyAt,hb',Option.some.injEq] at hty
    exact hty
  subst hE
  have hoff:off < l.length:=(List.getElem?_eq_some_iff.1 hcl).1
  have hcell:w.cell? ⟨b,off,none⟩=some c:=by simp [World.cell?,hb',hcl]
  have hfin:∀ w',(∃ S' β',Mem ⟨w,ownedBy (finFr [.bp virtBase off] [.box cs]) β,S,lentAt β [AV.box cs].length,[]⟩ [] S' β' (finFr [.bp virtBase off] [.box cs]) (fun x=>(([Value.pointer (some ⟨b,off,none⟩)])[x]?).or (lentAt β [AV.box cs].length x)) w') →
      ∃ u S' β',Ending.returned (.tuple #[])=.returned u∧Mem ⟨w,ownedBy (finFr [.bp virtBase off] [.box cs]) β,S,lentAt β [AV.box cs].length,[]⟩ [] S' β' ((resSlot,.tup []) :: boxFr virtBase [.box cs]) (fun x=>if x=resSlot then some u else lentAt β [AV.box cs].length x) w':=by
    rintro w' ⟨S',β',hm'⟩
    refine ⟨.tuple #[],S',β',rfl,hm'.toRes (res:=.tup []) (u:=.tuple #[]) (fun j a ha=>?_) (fun β'=>(⟨[],rfl,rfl,trivial⟩:∃ l,Value.tuple #[]=.tuple ⟨l⟩∧([]:List AV).all AV.noSlf=true∧RParts S' w' β' resSlot [] l)) (fun j=>by cases j <;> rfl) rfl (fun x u' hx hl=>lent_virt (by simp [virtBase]) hx hl)⟩
    have hj:j=0∧a=.box cs:=by
      cases j with
      | zero=>simp at ha; exact ⟨rfl,ha.symm⟩
      | succ j=>simp at ha
    obtain ⟨rfl,rfl⟩:=hj
    refine ⟨?_,hb⟩
    have:=fget_finFr_virt (as:=[.bp virtBase off]) (vin:=[.box cs]) (j:=0) (by simp [resSlot])
    simpa using this
  rcases hcase with rfl | ⟨b2,h1,rfl⟩
  · refine (fresh b off E' cs.length w hcell (by simp [World.shape?,hb',hlen]) (by omega) hlies (by simp [World.frozen?,hb'])).mono ?_
    rintro e w' ⟨rfl,rfl⟩
    refine hfin _ ?_
    rw [setCell_eq_setRow w b off _ _ _ _ hb']
    have hst:=hm.storeBox (l':=l.set off (.pointer (some ⟨b,off,none⟩))) (cs':=cs) (y:=virtBase) (b:=b) (by
        have:=fget_finFr_virt (as:=[.bp virtBase off]) (vin:=[.box cs]) (j:=0) (by simp [resSlot])
        simpa using this) hβ hb' (by simp) ?_ (fun i h=>h)
    · refine ⟨S,β,?_⟩
      have hl2:(l.toArray.setIfInBounds off (Value.pointer (some ⟨b,off,none⟩)))=(l.set off (.pointer (some ⟨b,off,none⟩))).toArray:=by simp
      rw [hl2]
      refine hst.congr0 fun x=>?_
      by_cases hx:x=virtBase
      · subst hx
        rw [fget_cons_self]
        have:=fget_finFr_virt (as:=[.bp virtBase off]) (vin:=[.box cs]) (j:=0) (by simp [resSlot])
        simpa using this
      · rw [fget_cons_ne _ _ (Ne.symm hx)]
    · refine All2.of_get (by simp; omega) fun j a v ha hv=>?_
      rw [List.getElem?_set] at hv
      by_cases hj:off=j
      · subst hj
        rw [if_pos rfl,if_pos hoff] at hv
        rw [hc] at ha
        cases hv
        cases ha
        exact ⟨by simp,hty,.inr ⟨b,hβ,rfl⟩⟩
      · rw [if_neg hj] at hv
        obtain ⟨v',hv',hr⟩:=All2.get hparts j a ha
        rw [hv] at hv'
        cases hv'
        exact hr
  · rw [hβ] at h1
    simp only [Value.pointer.injEq,Option.some.injEq,Addr.mk.injEq] at h1
    obtain ⟨rfl,_⟩:=h1
    refine (used b off w hcell).mono ?_
    rintro e w' ⟨rfl,rfl⟩
    exact hfin _ ⟨S,β,hm⟩
theorem run_unsafeString_off (w:World) {pt it ty e:TypeId} (hp:P.underlying pt=some (.pointer e)) (hc:P.cellsOf e=1) (g o cells:Nat) (hsh:w.shape? g=some (e,cells)) (l:List UInt8) (h0:l≠[]) (hn:o+l.length≤cells) (h63:l.length≤9223372036854775807)
    (hcell:∀ j x,l[j]? = some x→w.cell? ((⟨g,o,none⟩:Addr).add j)=some (.int .u8 x.toNat)) :
    (Builtin.unsafeString_ #[pt,it] ty #[.pointer (some ⟨g,o,none⟩),.int .i64 l.length]).run P w=.ok (.string ⟨l.toArray⟩) (w.freeze ⟨g,o,none⟩ l.length):=by
  have hl:l.length≠0:=by simpa using h0
  have hlb:=Lib.run_loadBytes (P:=P) w l ⟨g,o,none⟩ .empty hcell
  have hlies:liesAt P P.depth e (cells / P.cellsOf e) o e l.length=true:=by
    have hd:P.depth=(2 * (P.types.size+Made.depth)+1)+1:=rfl
    rw [hd]
    simp only [liesAt,Bool.or_eq_true]
    left
    rw [hd]
    simp [rowAt,hc,hn,sameLayout,Nat.mod_one]
  have h63':¬ (9223372036854775807:Int) < (l.length:Int):=by omega
  have hdef:Builtin.unsafeString_ #[pt,it] ty #[.pointer (some ⟨g,o,none⟩),.int .i64 l.length] =
      (do
        let n ← asInt (.int .i64 l.length)
        if n < 0 then runtimePanic (.error "unsafe.String: len out of range")
        if n > IntKind.i64.max then unsupported (.unsafePointer "String: a length above the largest int")
        if n=0 then pure (.string .empty)
        else if ← variablesAt ⟨g,o,none⟩ (← elemOf pt) n.toNat then do
          let s ← loadBytes ⟨g,o,none⟩ .empty n.toNat
          freeze ⟨g,o,none⟩ n.toNat
          pure (.string s)
        else unsupported (.unsafePointer "String: not so many bytes at ptr")) := rfl
  rw [hdef]
  have hmax:IntKind.i64.max=9223372036854775807:=rfl
  have hneg:¬ (l.length:Int) < 0:=by omega
  simp [asInt,asIntOf,hmax,h63',hneg,hl,variablesAt,hsh,elemOf,run_underlying hp,hlies,hlb]
theorem freeze_other (w:World) {g o n k:Nat} (h:k≠g):(w.freeze ⟨g,o,none⟩ n).heap[k]? = w.heap[k]? := by
  unfold World.freeze
  split
  · rfl
  · simp only [Array.getElem?_modify]
    rw [if_neg (Ne.symm h)]
theorem freeze_size (w:World) (a:Addr) (n:Nat):(w.freeze a n).heap.size=w.heap.size:=by
  unfold World.freeze
  split
  · rfl
  · simp
theorem freeze_rest (w:World) (a:Addr) (n:Nat):(w.freeze a n).os=w.os∧(w.freeze a n).tape=w.tape∧(w.freeze a n).output=w.output:=by
  unfold World.freeze
  split <;> exact ⟨rfl,rfl,rfl⟩
theorem ACall.bString {k tsl tbp ti ts κ:Nat} (hk:Callable P k) (hp:P.underlying tbp=some (.pointer κ)) (hcκ:P.cellsOf κ=1) (hκK:decide (κ < 1099511627776)=true)
    (walk:∀ (b off n c:Nat) (q p:Option Addr) (s:ByteArray) (w w1 w2:World),w.drew.cell? ⟨b,off+1,none⟩=some (.slice q n c)→w1.cell? ⟨b,off+1,none⟩=some (.slice q n c) →
      (Builtin.unsafeSliceData_ #[tsl] tbp #[.slice q n c]).run P w.drew=.ok (.pointer p) w1→(Builtin.unsafeString_ #[tbp,ti] ts #[.pointer p,.int .i64 n]).run P w1=.ok (.string s) w2 →
      Calls P k #[.pointer (some ⟨b,off,none⟩)] w fun e w'=>e=.returned (.string s)∧w'=w2)
    {off:Nat} {cs:List AV} {l:List UInt8} (hl63:l.length≤9223372036854775807) (hc:cs[off+1]? = some (.own κ 1 (l.map cU))) (hb:(AV.box (cs.set (off+1) .junk)).backOk=true) :
    ACall P k [.bp virtBase off] [.box cs] (.d (.str l)) [.box (cs.set (off+1) .junk)]:=by
  refine ⟨hk,fun w S β us hus hm=>?_⟩
  obtain ⟨b,rfl,hβ⟩:=bp_fin (by simpa using hus) hm
  obtain ⟨lv,E',hb',hparts⟩:=box_fin (_us:=[]) (by simp [resSlot]) hm hβ
  have hfin:fget (finFr [.bp virtBase off] [.box cs]) virtBase=.box cs:=by
    have:=fget_finFr_virt (as:=[.bp virtBase off]) (vin:=[.box cs]) (j:=0) (by simp [resSlot])
    simpa using this
  obtain ⟨v,hv,hrv⟩:=All2.get hparts (off+1) _ hc
  simp only [Nat.zero_add] at hrv
  obtain ⟨hvβ,hown⟩:=hrv
  have hpg:pget (finFr [.bp virtBase off] [.box cs]) (virtBase,off+1+1)=.own κ 1 (l.map cU):=by
    simp only [pget,hfin,List.getD_eq_getElem?_getD,hc,Option.getD_some]
  have hcell:∀ w':World,w'.heap[b]? = w.heap[b]? → w'.cell? ⟨b,off+1,none⟩=some v:=by
    intro w' h
    simp [World.cell?,h,hb',hv]
  have hblt:b < w.heap.size:=heap_lt hb'
  -- the end,once
  have finish:∀ w2:World,Mem ⟨w,ownedBy (finFr [.bp virtBase off] [.box cs]) β,S,lentAt β [AV.box cs].length,[]⟩ [] S β (Vm.pset (finFr [.bp virtBase off] [.box cs]) (virtBase,off+1+1) .junk) (fun x=>(([Value.pointer (some ⟨b,off,none⟩)])[x]?).or (lentAt β [AV.box cs].length x)) w2 →
      ∃ u S' β',Ending.returned (strOf l)=.returned u∧Mem ⟨w,ownedBy (finFr [.bp virtBase off] [.box cs]) β,S,lentAt β [AV.box cs].length,[]⟩ [] S' β' ((resSlot,.d (.str l)) :: boxFr virtBase [.box (cs.set (off+1) .junk)]) (fun x=>if x=resSlot then some u else lentAt β [AV.box cs].length x) w2:=by
    intro w2 hm2
    refine ⟨strOf l,S,β,rfl,hm2.toRes (res:=.d (.str l)) (u:=strOf l) (fun j a ha=>?_) (fun β'=>(rfl:RD S w2 (.str l) (strOf l))) (fun j=>by cases j <;> rfl) rfl (fun x u' hx hl=>lent_virt (by simp [virtBase]) hx hl)⟩
    have hj:j=0∧a=.box (cs.set (off+1) .junk):=by
      cases j with
      | zero=>simp at ha; exact ⟨rfl,ha.symm⟩
      | succ j=>simp at ha
    obtain ⟨rfl,rfl⟩:=hj
    exact ⟨by simp only [Vm.pset,hfin]; exact fget_cons_self _ _ _,hb⟩
  have empty:(⟨#[]⟩:ByteArray)=.empty:=rfl
  have stay:Mem ⟨w,ownedBy (finFr [.bp virtBase off] [.box cs]) β,S,lentAt β [AV.box cs].length,[]⟩ [] S β (Vm.pset (finFr [.bp virtBase off] [.box cs]) (virtBase,off+1+1) .junk) (fun x=>(([Value.pointer (some ⟨b,off,none⟩)])[x]?).or (lentAt β [AV.box cs].length x)) w.drew :=
    hm.pset hpg rfl trivial (fun _ h=>h) (fun _ h=>.inl h) (fun _ _=>rfl) rfl rfl rfl rfl
  rcases hown with ⟨rfl,hnil⟩ | ⟨g,o,c,arr,E,fz,rfl,hnc,hroom,hfr,hg,hEκ,hes⟩
  · have hl0:l=[]:=by simpa using hnil
    subst hl0
    refine (walk b off 0 0 none none .empty w w.drew w.drew (hcell _ rfl) (hcell _ rfl) rfl (Lib.run_unsafeString_none _ _ _ _ _)).mono ?_
    rintro e w' ⟨rfl,rfl⟩
    exact finish _ stay
  · simp only [List.length_map] at hnc hcell ⊢
    obtain rfl:E=κ:=by
      rcases hEκ.1 with h | h
      · exact h
      · exact (h.elim (fun h=>absurd h (Nat.ne_of_gt (Nat.lt_of_lt_of_le (of_decide_eq_true hκK) (Nat.le_add_left _ _)))) fun h=>absurd h (Nat.ne_of_gt (Nat.lt_of_lt_of_le (of_decide_eq_true hκK) (Nat.le_trans (by decide) (Nat.le_add_left _ _)))))
    have hbg:blk (β (virtBase,off+1+1))=some g:=by rw [← hvβ]; rfl
    have hgb:g≠b:=by
      intro h
      subst h
      have h1:(fget (finFr [.bp virtBase off] [.box cs]) virtBase).ownsAt (off+1+1)=true:=pget_owns hpg
      have h2:(fget (finFr [.bp virtBase off] [.box cs]) virtBase).ownsAt 0=true:=by rw [hfin]; rfl
      have:=(hm.dis virtBase (off+1+1) virtBase 0 g h1 h2 hbg (by rw [hβ]; rfl)).2
      omega
    by_cases hc0:c=0
    · subst hc0
      have hl0:l=[]:=by
        have:l.length=0:=by omega
        exact List.eq_nil_of_length_eq_zero this
      subst hl0
      have hsd:=Lib.run_unsafeSliceData_zero (P:=P) w.drew #[tsl] tbp E hp ⟨g,o,none⟩ 0 (E,arr.size) (by
        have hg':w.drew.heap[g]? = some (.cells arr E fz):=hg
        simp [World.shape?,hg'])
      have hold:∀ k,k < w.heap.size→(w.drew.alloc (.view ⟨g,o,none⟩ E)).heap[k]? = w.heap[k]? := fun k hk=>heap_alloc_old w.drew _ hk
      refine (walk b off 0 0 (some ⟨g,o,none⟩) _ .empty w _ _ (hcell _ rfl) (hcell _ (hold b hblt)) hsd (Lib.run_unsafeString_none _ _ _ _ _)).mono ?_
      rintro e w' ⟨rfl,rfl⟩
      refine finish _ (Mem.grow stay _ (fun k hk=>heap_alloc_old w.drew _ hk) (by simp [World.alloc]) rfl rfl rfl)
    · have hsd:(Builtin.unsafeSliceData_ #[tsl] tbp #[.slice (some ⟨g,o,none⟩) l.length c]).run P w.drew=.ok (.pointer (some ⟨g,o,none⟩)) w.drew:=Lib.run_unsafeSliceData_row _ _ _ _ _ _ hc0
      by_cases hl0:l=[]
      · subst hl0
        refine (walk b off 0 c (some ⟨g,o,none⟩) _ .empty w w.drew w.drew (hcell _ rfl) (hcell _ rfl) hsd (Lib.run_unsafeString_none _ _ _ _ _)).mono ?_
        rintro e w' ⟨rfl,rfl⟩
        exact finish _ stay
      · have hus:=run_unsafeString_off (P:=P) w.drew (it:=ti) (ty:=ts) hp hcκ g o arr.size (by
          have hg':w.drew.heap[g]? = some (.cells arr E fz):=hg
          simp [World.shape?,hg']) l hl0 (by omega) hl63 (fun j x hx=>by
            have hj:=REs.get _ _ j (cU x) hes (by simp [hx])
            have h0:=hj.2
            simp only [cU,RCs,and_true,Nat.mul_one] at h0
            obtain ⟨y,hy,hyx⟩:=h0
            have hyx':y=.int .u8 x.toNat:=hyx.1
            subst hyx'
            have hadd:(⟨g,o,none⟩:Addr).add j=⟨g,o+j,none⟩:=by
              unfold Addr.add
              split
              · rename_i h; subst h; rfl
              · rfl
            rw [hadd]
            have hg':w.drew.heap[g]? = some (.cells arr E fz):=hg
            simp [World.cell?,hg',hy])
        refine (walk b off l.length c (some ⟨g,o,none⟩) _ ⟨l.toArray⟩ w w.drew _ (hcell _ rfl) (hcell _ rfl) hsd hus).mono ?_
        rintro e w' ⟨rfl,rfl⟩
        obtain ⟨h1,h2,h3⟩:=freeze_rest w.drew ⟨g,o,none⟩ l.length
        refine finish _ (hm.pset hpg rfl trivial (fun _ h=>h) (fun _ h=>.inl h) (fun k hk=>?_) (freeze_size _ _ _) h1 h2 h3)
        exact freeze_other w.drew fun h=>hk (by rw [h]; exact hbg)
def flatV:AV→Option Value
  | .d (.v x)=>if x.oneCell' then some x else none
  | .d (.str l)=>some (strOf l)
  | .clo f []=>some (.func (.func f) #[] ⟨[]⟩)
  | _=>none
def flatVs:List AV→Option (List Value)
  | []=>some []
  | a :: r=>match flatV a,flatVs r with
    | some u,some us=>some (u :: us)
    | _,_=>none
theorem flatV_ok {a:AV} {u:Value} (h:flatV a=some u) {p:Path} {u':Value} (hr:RFlat S w β p a u'):u'=u:=by
  unfold flatV at h
  split at h
  · split at h
    · cases h; exact hr.1
    · cases h
  · cases h; exact hr
  · cases h
    obtain ⟨l,rfl,hl⟩:=hr
    cases l with
    | nil=>rfl
    | cons _ _=>cases hl
  · cases h
theorem flatV_mk {a:AV} {u:Value} (h:flatV a=some u) (p:Path):RFlat S w β p a u∧a.noSlf=true∧a.isOwn=false∧a.flat=true:=by
  unfold flatV at h
  split at h
  · split at h
    · cases h; exact ⟨⟨rfl,by assumption⟩,rfl,rfl,rfl⟩
    · cases h
  · cases h; exact ⟨rfl,rfl,rfl,rfl⟩
  · cases h; exact ⟨⟨[],rfl,trivial⟩,rfl,rfl,rfl⟩
  · cases h
theorem flatVs_get:∀ {as:List AV} {us:List Value},flatVs as=some us→as.length=us.length∧∀ (i:Nat) (a:AV),as[i]? = some a→∃ u,us[i]? = some u∧flatV a=some u
  | [],us,h=>by
    simp only [flatVs,Option.some.injEq] at h
    subst h
    simp
  | a :: as,us,h=>by
    simp only [flatVs] at h
    split at h
    case h_2=>cases h
    rename_i u us' h1 h2
    simp only [Option.some.injEq] at h
    subst h
    obtain ⟨h3,h4⟩:=flatVs_get h2
    refine ⟨by simp [h3],fun i b hb=>?_⟩
    cases i with
    | zero=>simp at hb; subst hb; exact ⟨u,by simp,h1⟩
    | succ i=>simpa using h4 i b (by simpa using hb)
def flatR:AV→Option Value
  | .tup vs=>(flatVs vs).map fun us=>.tuple us.toArray
  | a=>flatV a
theorem flatR_mk {a:AV} {u:Value} (h:flatR a=some u) (β':Path→Value):RSlot (condG []) S w β' resSlot a u∧(∀ j,a.ownsAt j=false)∧a.noGd=true:=by
  unfold flatR at h
  split at h
  · rename_i vs
    simp only [Option.map_eq_some_iff] at h
    obtain ⟨us,hus,rfl⟩:=h
    obtain ⟨h1,h2⟩:=flatVs_get hus
    refine ⟨⟨us,rfl,?_,All2.of_get h1 fun j a c ha hc=>?_⟩,fun j=>?_,rfl⟩
    · rw [List.all_eq_true]
      intro a ha
      obtain ⟨i,hi⟩:=List.getElem?_of_mem ha
      obtain ⟨u,_,hu⟩:=h2 i a hi
      exact (flatV_mk (S:=S) (w:=w) (β:=β') hu (0,0)).2.1
    · obtain ⟨u,hu,hv⟩:=h2 j a ha
      rw [hc] at hu
      cases hu
      exact (flatV_mk hv _).1
    · cases j with
      | zero=>rfl
      | succ j =>
        simp only [AV.ownsAt]
        cases hj:vs[j]? with
        | none=>rfl
        | some a =>
          obtain ⟨u,_,hv⟩:=h2 j a hj
          simpa using (flatV_mk (S:=S) (w:=w) (β:=β') hv (0,0)).2.2.1
  · obtain ⟨h1,h2,h3,h4⟩:=flatV_mk (S:=S) (w:=w) (β:=β') h (resSlot,0)
    refine ⟨(flat_slot h4).2 h1,fun j=>?_,?_⟩
    · cases hj:a.ownsAt j with
      | false=>rfl
      | true =>
        have:=(flat_ownsAt h4 j hj).2
        rw [h3] at this; cases this
    · cases a <;> first | rfl | cases h4
theorem ACall.ofBelow {k:Nat} (hk:Callable P k) {args:List AV} {us:List Value} {res:AV} {u:Value} (hargs:flatVs args=some us) (hal:decide (args.length < resSlot)=true) (hres:flatR res=some u)
    (h:∀ w:World,Calls P k us.toArray w fun e w'=>e=.returned u∧Below w.heap.size w w'):ACall P k args [] res []:=by
  have hal':=of_decide_eq_true hal
  refine ⟨hk,fun w S β vs hvs hm=>?_⟩
  obtain ⟨h1,h2⟩:=flatVs_get hargs
  have hvu:vs=us:=by
    apply List.ext_getElem?
    intro i
    rcases Nat.lt_or_ge i args.length with hi | hi
    · have ha:args[i]? = some args[i]:=List.getElem?_eq_getElem hi
      obtain ⟨u',hu',hv⟩:=h2 i _ ha
      obtain ⟨u0,hr,hu0⟩:=hm.rel i
      rw [fget_finFr_arg hi,List.getD_eq_getElem?_getD,ha,Option.getD_some] at hr
      have hvi:vs[i]? = some vs[i]:=List.getElem?_eq_getElem (by omega)
      have e1:=hu0 vs[i] (by simp [hvi])
      have hfl:=(flatV_mk (S:=S) (w:=w) (β:=β) hv (i,0)).2.2.2
      have e2:=flatV_ok hv ((flat_slot hfl).1 hr)
      rw [hvi,hu',e1,e2]
    · rw [List.getElem?_eq_none (by omega),List.getElem?_eq_none (by omega)]
  subst hvu
  refine (h w).mono ?_
  rintro e w' ⟨rfl,hb⟩
  have hg:=Mem.grow hm w' hb.block hb.size hb.os hb.tape hb.output
  have hr:∀ β',RSlot (condG []) S w' β' resSlot res u:=fun β'=>(flatR_mk hres β').1
  refine ⟨u,S,β,rfl,hg.toRes (vout:=[]) (fun j a ha=>by simp at ha) hr (flatR_mk (S:=S) (w:=w') hres β).2.1 (flatR_mk (S:=S) (w:=w') hres β).2.2 (fun x u' hx hl=>lent_virt (by rw [← h1]; have:virtBase=resSlot+1:=rfl; omega) hx hl)⟩
end
end Go.Vm
namespace Go.Vm
end Go.Vm
namespace Go.Vm
theorem or_cond (a b:Bool):(bif a then true else b)=(a || b):=by cases a <;> rfl
theorem and_cond (a b:Bool):(bif a then b else false)=(a && b):=by cases a <;> rfl
theorem wrap_succ {i:Nat} (h:i < 9223372036854775807):IntKind.i64.wrap ((i:Int)+1)=((i+1:Nat):Int):=by
  rw [wrap_id (by omega)]
  rfl
theorem wrap_pred {i:Nat} (h:0 < i) (h2:i < 9223372036854775807):IntKind.i64.wrap ((i:Int) - 1)=((i - 1:Nat):Int):=by
  rw [wrap_id (by omega)]
  omega
theorem dec_lt {i n:Nat} {inst:Decidable ((i:Int) < (n:Int))} (h:i < n):@decide _ inst=true:=by simpa using h
theorem dec_end {n:Nat} {inst:Decidable ((n:Int) < (n:Int))}:@decide _ inst=false:=by simp
theorem chk_in {α:Type} {i n:Nat} (h:i < n) {k:Option α}:chk (0≤(i:Int)∧(i:Int) < (n:Int)) k=k:=chk_pos ⟨by omega,by exact_mod_cast h⟩
end Go.Vm
namespace Go.Vm
open Go.ChangeShapes Go.RowKit Go.WideShapes Go.ChangeAt Go.WideMaps Go.WideElems
end Go.Vm
namespace Go.Vm
open Go.RowKit
section
variable {P:Program} {S:Nat→Prop} {w:World}
theorem flatR_ok {S':Nat→Prop} {w':World} {a:AV} {u:Value} (h:flatR a=some u) {g:List (Nat×Bool)→Bool} {β:Path→Value} {x:Nat} {v:Value} (hr:RSlot g S' w' β x a v):v=u:=by
  unfold flatR at h
  split at h
  · rename_i vs
    simp only [Option.map_eq_some_iff] at h
    obtain ⟨us,hus,rfl⟩:=h
    obtain ⟨h1,h2⟩:=flatVs_get hus
    obtain ⟨l,rfl,_,hl⟩:=hr
    have:l=us:=by
      apply List.ext_getElem?
      intro j
      rcases Nat.lt_or_ge j vs.length with hj | hj
      · have hv:vs[j]? = some vs[j]:=List.getElem?_eq_getElem hj
        obtain ⟨u',hu',hf⟩:=h2 j _ hv
        obtain ⟨c,hc,hrc⟩:=All2.get hl j _ hv
        rw [hc,hu',flatV_ok hf hrc]
      · have:=All2.len hl
        rw [List.getElem?_eq_none (by omega),List.getElem?_eq_none (by omega)]
    rw [this]
  · obtain ⟨_,_,_,h4⟩:=flatV_mk (S:=S') (w:=w') (β:=β) h (x,0)
    exact flatV_ok h ((flat_slot h4).1 hr)
theorem ACall.below {k:Nat} {args:List AV} {us:List Value} {res:AV} {u:Value} (h:ACall P k args [] res []) (hargs:flatVs args=some us) (hal:args.length < resSlot) (hres:flatR res=some u) (w:World) :
    Calls P k us.toArray w fun e w'=>e=.returned u∧Below w.heap.size w w':=by
  obtain ⟨h1,h2⟩:=flatVs_get hargs
  have hno:∀ y i,(fget (finFr args []) y).ownsAt i=false:=by
    intro y i
    rcases finFr_cases args [] y with hy | ⟨hy1,hy2⟩ | ⟨j,rfl⟩
    · rw [fget_finFr_arg hy]
      have ha:args[y]? = some (args.getD y .junk):=by simp [List.getD_eq_getElem?_getD,List.getElem?_eq_getElem hy]
      obtain ⟨u',_,hv⟩:=h2 y _ ha
      obtain ⟨_,_,h3,h4⟩:=flatV_mk (S:=fun _=>True) (w:=w) (β:=fun _=>.bool false) hv (0,0)
      cases hj:(args.getD y .junk).ownsAt i with
      | false=>rfl
      | true =>
        have:=(flat_ownsAt h4 i hj).2
        rw [h3] at this; cases this
    · rw [fget_finFr_none hy1 hy2]
      cases i <;> rfl
    · rw [fget_finFr_virt hal,if_neg (by simp)]
      cases i <;> rfl
  have hm:Mem ⟨w,ownedBy (finFr args []) (fun _=>.bool false),fun _=>False,lentAt (fun _=>.bool false) ([]:List AV).length,[]⟩ [] (fun _=>False) (fun _=>.bool false) (finFr args []) (fun x=>(us[x]?).or (lentAt (fun _=>.bool false) ([]:List AV).length x)) w:=by
    refine ⟨fun x=>?_,fun x l a hx=>?_,fun x i y j b hx=>?_,fun x i b hx=>?_,fun b hb=>hb.elim,fun b hb=>hb.elim,fun _ _ _=>rfl,rfl,rfl,rfl,Nat.le_refl _⟩
    · have hl:lentAt (fun _=>.bool false) ([]:List AV).length x=none:=by
        unfold lentAt
        rw [if_neg (by simp)]
      rcases finFr_cases args [] x with hy | ⟨hy1,hy2⟩ | ⟨j,rfl⟩
      · rw [fget_finFr_arg hy]
        have ha:args[x]? = some (args.getD x .junk):=by simp [List.getD_eq_getElem?_getD,List.getElem?_eq_getElem hy]
        obtain ⟨u',hu',hv⟩:=h2 x _ ha
        obtain ⟨h5,_,_,h4⟩:=flatV_mk (S:=fun _=>False) (w:=w) (β:=fun _=>.bool false) hv (x,0)
        exact ⟨u',(flat_slot h4).2 h5,fun u0 h0=>by rw [hl,hu'] at h0; simpa using h0.symm⟩
      · rw [fget_finFr_none hy1 hy2]
        refine ⟨undef,trivial,fun u0 h0=>?_⟩
        rw [hl,List.getElem?_eq_none (by omega)] at h0
        cases h0
      · rw [fget_finFr_virt hal,if_neg (by simp)]
        refine ⟨undef,trivial,fun u0 h0=>?_⟩
        rw [hl,List.getElem?_eq_none (by simp only [virtBase,resSlot] at *; omega)] at h0
        cases h0
    · rcases finFr_cases args [] x with hy | ⟨hy1,hy2⟩ | ⟨j,rfl⟩
      · rw [fget_finFr_arg hy] at hx
        have ha:args[x]? = some (args.getD x .junk):=by simp [List.getD_eq_getElem?_getD,List.getElem?_eq_getElem hy]
        obtain ⟨u',_,hv⟩:=h2 x _ ha
        rw [hx] at hv
        cases hv
      · rw [fget_finFr_none hy1 hy2] at hx; cases hx
      · rw [fget_finFr_virt hal,if_neg (by simp)] at hx; cases hx
    · rw [hno] at hx; cases hx
    · rw [hno] at hx; cases hx
  refine (h.2 w (fun _=>False) (fun _=>.bool false) us h1.symm hm).mono ?_
  rintro e w' ⟨v,S',β',rfl,hm'⟩
  have hv:v=u:=by
    obtain ⟨v0,hr,hu0⟩:=hm'.rel resSlot
    rw [fget_cons_self] at hr
    have e1:=hu0 v (by simp)
    subst e1
    exact flatR_ok hres hr
  subst hv
  refine ⟨rfl,⟨hm'.os,hm'.tape,hm'.output,hm'.size,fun b hb=>hm'.old b hb ?_⟩⟩
  rintro ⟨y,i,ho,_⟩
  rw [hno] at ho; cases ho
end
end Go.Vm
namespace Go.Vm
open Go.ChangeShapes Go.RowKit Go.WideShapes Go.ChangeAt Go.WideMaps Go.WideElems
abbrev Glos:=List (Nat×List Dat)
def gvs (gs:Glos):List AV:=gs.map fun g=>.glo g.1 g.2
def gbs (gs:Glos):Path→Value:=fun p=>match gs[p.1 - virtBase]? with
  | some g=>if virtBase≤p.1 then .pointer (some ⟨g.1,0,none⟩) else .bool false
  | none=>.bool false
theorem gbs_at {gs:Glos} {j:Nat} {g:Nat×List Dat} (h:gs[j]? = some g) (i:Nat):gbs gs (virtBase+j,i)=.pointer (some ⟨g.1,0,none⟩):=by
  simp [gbs,h]
theorem start_memGs {W:World} {args:List AV} {us:List Value} {gs:Glos} (hlen:us.length=args.length) (hn:args.length < resSlot) (hd:args.all AV.isData=true) (hr:All2 (fun _ a u=>RFlat (allS W) W (fun _=>.bool false) (0,0) a u) 0 args us)
    (hg:∀ g∈gs,GloAt (allS W) W g.1 g.2) :
    (∀ x i,(fget (finFr args (gvs gs)) x).ownsAt i=false)∧Mem ⟨W,ownedBy (finFr args (gvs gs)) (gbs gs),allS W,lentAt (gbs gs) (gvs gs).length,[]⟩ [] (allS W) (gbs gs) (finFr args (gvs gs)) (fun x=>(us[x]?).or (lentAt (gbs gs) (gvs gs).length x)) W:=by
  have hgl:(gvs gs).length=gs.length:=by simp [gvs]
  have hat:∀ x,(∃ a u,fget (finFr args (gvs gs)) x=a∧a.isData=true∧us[x]? = some u∧RFlat (allS W) W (fun _=>.bool false) (0,0) a u) ∨
      (∃ j g,x=virtBase+j∧gs[j]? = some g∧fget (finFr args (gvs gs)) x=.glo g.1 g.2∧us[x]? = none∧lentAt (gbs gs) (gvs gs).length x=some (.pointer (some ⟨g.1,0,none⟩))) ∨
      (fget (finFr args (gvs gs)) x=.junk∧us[x]? = none∧lentAt (gbs gs) (gvs gs).length x=none):=by
    intro x
    rcases finFr_cases args (gvs gs) x with h | ⟨h1,h2⟩ | ⟨j,rfl⟩
    · left
      obtain ⟨u,hu,hru⟩:=All2.get hr x args[x] (by simp [h])
      refine ⟨args[x],u,?_,(List.all_eq_true.1 hd) _ (List.getElem_mem h),by simpa using hu,hru⟩
      rw [fget_finFr_arg h,List.getD_eq_getElem?_getD]
      simp [h]
    · right; right
      refine ⟨fget_finFr_none h1 h2,by simp; omega,?_⟩
      unfold lentAt
      rw [if_neg (by omega)]
    · right
      have hu:us[virtBase+j]? = none:=by
        rw [List.getElem?_eq_none]
        simp only [virtBase,resSlot] at *
        omega
      rcases Nat.lt_or_ge j gs.length with hj | hj
      · left
        have hgj:gs[j]? = some gs[j]:=List.getElem?_eq_getElem hj
        refine ⟨j,gs[j],rfl,hgj,?_,hu,?_⟩
        · rw [fget_finFr_virt hn,if_pos (by omega),List.getD_eq_getElem?_getD]
          simp [gvs,hj]
        · unfold lentAt
          rw [if_pos ⟨by omega,by omega⟩,gbs_at hgj]
      · right
        refine ⟨by rw [fget_finFr_virt hn,if_neg (by omega)],hu,?_⟩
        unfold lentAt
        rw [if_neg (by omega)]
  have hown:∀ x i,(fget (finFr args (gvs gs)) x).ownsAt i=false:=by
    intro x i
    rcases hat x with ⟨a,u,h1,h2,_,_⟩ | ⟨j,g,_,_,h1,_⟩ | ⟨h1,_,_⟩
    · rw [h1]
      cases a <;> first | (cases i <;> rfl) | (simp [AV.isData] at h2)
    · rw [h1]; cases i <;> rfl
    · rw [h1]; cases i <;> rfl
  refine ⟨hown,fun x=>?_,fun x l a h=>?_,fun x i y j b h=>?_,fun x i b h=>?_,fun b hb=>⟨hb,.inl hb⟩,fun _ h=>h,fun _ _ _=>rfl,rfl,rfl,rfl,Nat.le_refl _⟩
  · rcases hat x with ⟨a,u,h1,h2,h3,h4⟩ | ⟨j,g,rfl,hgj,h1,h2,h3⟩ | ⟨h1,h2,h3⟩
    · refine ⟨u,?_,fun u' hu'=>by simp [h3] at hu'; exact hu'.symm⟩
      rw [h1]
      cases a with
      | d y=>exact (flat_slot rfl).2 h4
      | agg y=>exact (flat_slot rfl).2 h4
      | _=>simp [AV.isData] at h2
    · refine ⟨.pointer (some ⟨g.1,0,none⟩),?_,fun u' hu'=>by
        simp only [h2,h3] at hu'
        simpa using hu'.symm⟩
      rw [h1]
      exact (flat_slot rfl).2 ⟨(gbs_at hgj 0).symm,rfl,hg g (List.mem_of_getElem? hgj)⟩
    · refine ⟨undef,?_,fun u' hu'=>by
        simp only [h2,h3] at hu'
        cases hu'⟩
      rw [h1]
      exact (flat_slot rfl).2 trivial
  · rcases hat x with ⟨a',u,h1,h2,_,_⟩ | ⟨_,_,_,_,h1,_⟩ | ⟨h1,_,_⟩
    · rw [h] at h1
      subst h1
      simp [AV.isData] at h2
    · rw [h] at h1; cases h1
    · rw [h] at h1; cases h1
  · rw [hown] at h; cases h
  · rw [hown] at h; cases h
theorem ACall.lawGs {P:Program} {k:Nat} {gs:Glos} {args:List AV} {us:List Value} {W:World} {b:Bool} (h:ACall P k args (gvs gs) (.d (.v (.bool b))) (gvs gs)) (hlen:us.length=args.length) (hn:args.length < resSlot) (hd:args.all AV.isData=true)
    (hr:All2 (fun _ a u=>RFlat (allS W) W (fun _=>.bool false) (0,0) a u) 0 args us) (hg:∀ g∈gs,GloAt (allS W) W g.1 g.2) :
    Calls P k us.toArray W fun e W'=>e=.returned (.bool b)∧KeptAll W W':=by
  obtain ⟨hown,hm0⟩:=start_memGs hlen hn hd hr hg
  refine (h.2 W (allS W) (gbs gs) us hlen hm0).mono fun e W' ⟨u,S',β',he,hm⟩=>?_
  obtain ⟨v,hv1,hv2⟩:=hm.rel resSlot
  have hu:=hv2 u (by simp)
  subst hu
  rw [show fget ((resSlot,AV.d (.v (.bool b))) :: boxFr virtBase (gvs gs)) resSlot=.d (.v (.bool b)) from fget_cons_self _ _ _] at hv1
  have hb:u=.bool b:=hv1.1
  refine ⟨by rw [he,hb],hm.os,hm.output,hm.size,fun i hi=>hm.old i hi ?_⟩
  rintro ⟨x,j,hx,_⟩
  rw [hown] at hx
  cases hx
end Go.Vm
namespace Go.Vm
end Go.Vm
namespace Go.Vm
open Go.ChangeShapes Go.WideShapes Go.ChangeAt Go.WideMaps Go.WideElems Go.RowKit
section
variable {P:Program} {t:TypeId}
theorem law_contractU {β:Type} {H:Type} {enc:TypeId×Value→H} {P:Program} {k:Nat} (gl:Glos) {f:Func} {s:ChangeSpec} {av:β→List AV} {Q Q':β→Prop} {r:Bool} {tb:TypeId} {ts:List TypeId} {apart fresh handsOn:Bool} {K:List (DataW H)→Bool}
    (hts:f.params.toList=ts) (hop:OpensArgs P ts av Q) (hav:∀ b,(av b).length < resSlot) (hlaw:∀ b,Q b→Q' b→ACall P k (av b) (gvs gl) (.d (.v (.bool r))) (gvs gl))
    (hlaid:laidOutB P=true) (hread:(ts.all fun t=>P.readableRec t && decide (t < P.types.size))=true) (hvars:s.vars=[]) (hres:f.resultTypes=#[tb]) (htb:P.underlying tb=some .bool)
    (hspec:∀ ds:List (DataW H),ds.length=ts.length→s.fn H (ds++[])={ results:=[.lit (.bool r)],args:=ds })
    (W:World) (base:Nat) (args:Array Value) (ds gs:List (DataW H)) (before:List MemPlace) (hg:∀ g∈gl,GloAt (allS W) W g.1 g.2)
    (hsm:∀ (b:β) (ps:List MemPlace),DataW.TrodAll enc P W 0 (fun _=>true) true ts args.toList ds ps→(∀ i,All2 (fun _ a u=>RFlat (allS W) W (fun _=>.bool false) (0,0) a u) i (av b) args.toList)→K (ds++[])=true→Q' b)
    (hval:∀ (j:Nat) t v,f.params[j]? = some t→args[j]? = some v→Value.okWide P W .any base t v)
    (hW:DataW.Whole enc P f.params.toList s.vars apart W args.toList ds gs before) (hK:K (ds++gs)=true) :
    Calls P k args W fun e W'=>∃ v,e=.returned v∧s.post enc P f apart fresh handsOn false W args v W':=by
  subst hts
  have hW':=hW
  have hlt:=hW.lt
  obtain ⟨p,q,hA,hV,rfl,hfz,hnd⟩:=hW
  rw [hvars] at hV
  obtain ⟨rfl,rfl⟩:gs=[]∧q=[]:=by
    cases gs with
    | nil=>exact ⟨rfl,hV⟩
    | cons=>exact hV.elim
  obtain ⟨b,hQ,hvl,hda,hr⟩:=hop H enc W base args.toList ds p (fun j t v h1 h2=>hval j t v (by simpa using h1) (by simpa using h2)) hA
  have hQ':=hsm b p hA hr hK
  have hdl:∀ {ts:List TypeId} {vs:List Value} {ds:List (DataW H)} {ps:List MemPlace},DataW.TrodAll enc P W 0 (fun _=>true) true ts vs ds ps→ds.length=ts.length:=by
    intro ts
    induction ts with
    | nil=>intro vs ds ps h; cases vs <;> cases ds <;> first | rfl | exact h.elim
    | cons t ts ih =>
      intro vs ds ps h
      cases vs with
      | nil=>exact h.elim
      | cons v vs =>
        cases ds with
        | nil=>exact h.elim
        | cons d ds =>
          obtain ⟨_,_,_,h2,_⟩:=h
          simp [ih h2]
  have hsp:=hspec ds (hdl hA)
  have hc:=(hlaw b hQ hQ').lawGs (W:=W) (us:=args.toList) hvl (hav b) hda (hr 0) hg
  rw [show args.toList.toArray=args from by simp] at hc
  refine hc.mono fun e W' ⟨he,hk⟩=>⟨_,he,?_⟩
  refine post_kept (pa:=p) (pv:=[]) hW' hk (fun _ _ _=>?_) (fun sp hb=>?_) (fun sp hb=>?_) (by simp) ?_
  · rw [hsp,hres]
    exact trodAll_mk1 (shut_bool htb r)
  · rw [hsp]
    exact TrodAll_kept hlaid hk sp hread hA (fun x hx=>hlt x (by simp [hx])) (fun x hx=>hb x (by simp [hx]))
  · rw [hsp,hvars]
    rfl
  · exact ok_one hres rfl (okWide_bool_mk htb r)
end
end Go.Vm
namespace Go.Vm
open Go.RowKit
section
variable {P:Program} {S:Nat→Prop} {w:World}
theorem rd_strs {xs:List (List UInt8)} {u:Value} (h:RD S w (.sl 1 (xs.map cS)) u):(∃ q,u=.slice q 0 0∧xs=[])∨∃ b off c,u=.slice (some ⟨b,off,none⟩) xs.length c∧xs.length≤c∧S b∧∀ (j:Nat) x,xs[j]? = some x→w.cell? ⟨b,off+j,none⟩=some (strOf x):=by
  simp only [RD] at h
  rcases h with ⟨⟨q,rfl⟩,he⟩ | ⟨b,off,c,arr,E,fz,rfl,hc,hS,hb,hr⟩
  · exact .inl ⟨q,rfl,List.map_eq_nil_iff.1 he⟩
  · rw [List.length_map] at hc ⊢
    refine .inr ⟨b,off,c,rfl,hc,hS,fun j x hx=>?_⟩
    obtain ⟨_,h2⟩:=REs.get _ off j (cS x) hr (by rw [List.getElem?_map,hx]; rfl)
    obtain ⟨v,hv,hrd⟩:=RCs.get _ _ 0 (.str x) h2 rfl
    have hv2:v=strOf x:=hrd
    subst hv2
    simp only [World.cell?,hb,Option.isSome_none,Bool.false_eq_true,if_false]
    simpa using hv
end
end Go.Vm
namespace Go.Vm
open Go.Proofs
variable {H:Type} {enc:TypeId×Value→H}
end Go.Vm
