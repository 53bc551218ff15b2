/-
  para.Hyphens: its contract over data.
-/
import Derived.Test.YtbnneoaaeidenaaDoorParHf
import Derived.Test.YtbnneoaaeidenaaDoorVmD
namespace Go.Vm
open Go.RowKit
/-- A function of data that is read: what it returns is data,too,some of it new. -/
theorem ACall.ofReadsD {P:Program} {k:Nat} (hk:Callable P k) {args:List AV} {res:AV} (hown:∀ j,res.ownsAt j=false) (hgd:∀ l a,res≠.gd l a) (hal:decide (args.length < resSlot)=true)
    (h:∀ (w:World) (S:Nat→Prop) (us:List Value),us.length=args.length→(∀ b,S b→b < w.heap.size)→(∀ (i:Nat) (x:Dat) (v:Value),args[i]? = some (.d x)→us[i]? = some v→RD S w x v) →
      Calls P k us.toArray w fun e w'=>∃ u,e=.returned u∧Below w.heap.size w w'∧∀ β,RSlot (condG []) (fun b=>S b∨(w.heap.size≤b∧b < w'.heap.size)) w' β resSlot res u):ACall P k args [] res []:=by
  have hal':=of_decide_eq_true hal
  refine ⟨hk,fun w S β vs hvs hm=>?_⟩
  refine (h w S vs hvs (fun b hb=>(hm.stb b hb).1) fun i x v hi hv=>?_).mono ?_
  · obtain ⟨u0,hr,hu0⟩:=hm.rel i
    have hlt:=(List.getElem?_eq_some_iff.1 hi).1
    rw [fget_finFr_arg hlt,List.getD_eq_getElem?_getD,hi,Option.getD_some] at hr
    have e1:=hu0 v (by simp [hv])
    rw [e1]
    exact hr
  rintro e w' ⟨u,rfl,hb,hr⟩
  have hj:∀ x,x≠resSlot→fget ((resSlot,res) :: boxFr virtBase []) x=.junk:=fun x hx=>by
    rw [fget_cons_ne _ _ (Ne.symm hx),fget_boxFr,if_neg (by simp)]
  have hno:∀ x i,(fget ((resSlot,res) :: boxFr virtBase []) x).ownsAt i=false:=fun x i=>by
    by_cases hx:x=resSlot
    · rw [hx,fget_cons_self]
      exact hown i
    · rw [hj x hx]
      cases i <;> rfl
  refine ⟨u,fun b=>S b∨(w.heap.size≤b∧b < w'.heap.size),β,rfl,⟨fun x=>?_,fun x l a hx=>?_,fun x i y j b hx=>?_,fun x i b hx=>?_,fun b hb'=>?_,fun b hb'=>.inl hb',fun b hb' _=>hb.block b hb',hb.os,hb.tape,hb.output,hb.size⟩⟩
  · by_cases hx:x=resSlot
    · refine ⟨u,?_,fun u' h=>?_⟩
      · rw [hx,fget_cons_self]
        exact hr β
      · rw [if_pos hx] at h
        exact (Option.some.inj h).symm
    · refine ⟨(lentAt β ([]:List AV).length x).getD undef,?_,fun u' h=>?_⟩
      · rw [hj x hx]
        trivial
      · rw [if_neg hx] at h
        rw [h]
        rfl
  · by_cases hx':x=resSlot
    · rw [hx',fget_cons_self] at hx
      exact absurd hx (hgd l a)
    · rw [hj x hx'] at hx
      cases hx
  · rw [hno] at hx; cases hx
  · rw [hno] at hx; cases hx
  · rcases hb' with h1 | h1
    · exact ⟨Nat.lt_of_lt_of_le (hm.stb b h1).1 hb.size,(hm.stb b h1).2⟩
    · exact ⟨h1.2,.inr (.inl h1.1)⟩
namespace ParG
open Go.Proofs
theorem hyph_ok {F:Nat} {word:List UInt8} {pats:List (List UInt8)} {r:List Int×Int} (h:hyph F word pats=some r):ACall Tryd.prog 7 [.d (.str word),.d (.sl 1 (pats.map cS))] [] (.tup [.d (.sl 1 (r.1.map (cI .i64))),.d (.v (.int .i64 r.2))]) []:=by
  refine ACall.ofReadsD ⟨_,Tryd.func7,by kernel_rfl,by kernel_rfl⟩ (fun j=>?_) (fun l a e=>by cases e) rfl ?_
  · match j with
    | 0=>rfl
    | 1=>rfl
    | 2=>rfl
    | j+3=>rfl
  intro w S us hus hS hrd
  match us,hus with
  | [a,b],_ =>
    have ha:a=strOf word:=by simpa only [RD] using hrd 0 (.str word) a rfl rfl
    have hb:=rd_strs (hrd 1 (.sl 1 (pats.map cS)) b rfl rfl)
    subst ha
    refine (Hyphens_at h (v:=b) ?_).mono ?_
    · rcases hb with ⟨q,hq,hp⟩ | ⟨b',off,c,h1,h2,h3,h4⟩
      · exact .inl ⟨q,hq,hp⟩
      · exact .inr ⟨b',off,c,h1,h2,hS b' h3,h4⟩
    · rintro e w' ⟨u,rfl,hbw,ho1,ho2⟩
      refine ⟨_,rfl,hbw,fun β=>?_⟩
      refine ⟨[u,.int .i64 r.2],rfl,rfl,?_,?_,trivial⟩
      · show RD _ w' (.sl 1 (r.1.map (cI .i64))) u
        simp only [RD]
        rcases ho2 with ⟨h1,h2⟩ | ⟨g,cap,cur,h1,h2,h3,h4,h5,h6,h7⟩
        · exact .inl ⟨⟨_,h1⟩,by rw [List.eq_nil_of_length_eq_zero h2]; rfl⟩
        · refine .inr ⟨g,0,cap,cur,_,_,by rw [h1,List.length_map],by rw [List.length_map]; exact h4,.inr ⟨h2,heap_lt h3⟩,h3,REs.of_get _ _ fun j e he=>?_⟩
          rw [List.getElem?_map,Option.map_eq_some_iff] at he
          obtain ⟨z,hz,rfl⟩:=he
          refine ⟨rfl,?_⟩
          have hlt:j < r.1.length:=(List.getElem?_eq_some_iff.1 hz).1
          have hg:cur[j]? = some (.int .i64 z):=by
            have h8:(cur.toList.take (r.1.length * 1))[j]? = some (Value.int .i64 z):=by rw [h7,List.getElem?_map,hz]; rfl
            rw [List.getElem?_take,if_pos (by omega),Array.getElem?_toList] at h8
            exact h8
          refine ⟨⟨.int .i64 z,by simpa using hg,rfl,rfl⟩,trivial⟩
      · exact ⟨rfl,rfl⟩
end ParG
end Go.Vm
