/-
  para.Hyphens: what the tree answers,by maxima.
-/
import Derived.Test.YtbnneoaaeidenaaDoorParKc
namespace Go.Vm.ParM
open Go.Vm.ParG
/-- The numbers that a word of the patterns has at a place. -/
def PA (pats:List (List UInt8)) (u:List UInt8) (k:Nat) (a:Int):Prop:=∃ p∈pats,(patOf p).1=u∧k < (patOf p).2.1.length∧a=(patOf p).2.1.getD k 0
theorem Mx.extra {A E:Int→Prop} {v:Int} (h:Mx A v) (hE:∀ a,E a→a≤0):Mx (fun a=>A a∨E a) v :=
  ⟨h.1.imp id .inl,h.2.1,fun a ha=>ha.elim (h.2.2 a) fun he=>Int.le_trans (hE a he) h.2.1⟩
theorem getD_nonneg {l:List Int} (h:∀ z∈l,0≤z) (k:Nat):0≤l.getD k 0:=by
  rw [List.getD_eq_getElem?_getD]
  cases hk:l[k]? with
  | none=>exact Int.le_refl _
  | some z=>exact h z (List.mem_of_getElem? hk)
theorem Mx.row {l:List Int} (h:∀ z∈l,0≤z) (k:Nat):Mx (fun a=>k < l.length∧a=l.getD k 0) (l.getD k 0):=by
  by_cases hk:k < l.length
  · exact ⟨.inr ⟨hk,rfl⟩,getD_nonneg h k,fun a ha=>Int.le_of_eq ha.2⟩
  · exact ⟨.inl (getD_out (by omega)),getD_nonneg h k,fun a ha=>absurd ha.1 hk⟩
theorem hyphAll_eq (F:Nat):∀ (pats:List (List UInt8)) {σ:Sto} {lab:Nat→List UInt8},Inv σ lab→(∀ p∈pats,p.length≤2097152∧p.length < F)→∀ {B:List UInt8→Nat→Int→Prop},(∀ u k,Mx (B u k) ((val σ 0 u).getD k 0)) →
    (pats.all (fun p=>(patOf p).2.2)=false∧hyphAll F pats σ=some none)∨(pats.all (fun p=>(patOf p).2.2)=true∧∃ τ lab',hyphAll F pats σ=some (some τ)∧Inv τ lab'∧∀ u k,Mx (fun a=>B u k a∨PA pats u k a) ((val τ 0 u).getD k 0))
  | [],σ,lab,h,_,B,hB=>.inr ⟨rfl,σ,lab,rfl,h,fun u k=>(hB u k).congr fun a=>⟨.inl,fun h=>h.elim id fun ⟨p,hp,_⟩=>by cases hp⟩⟩
  | p :: r,σ,lab,h,hp,B,hB=>by
    obtain ⟨hp1,hp2⟩:=hp p (List.mem_cons_self ..)
    have hpe:=(pattern_eq F p hp1 hp2).1
    cases hok:(patOf p).2.2 with
    | false =>
      refine .inl ⟨by rw [List.all_cons,hok]; rfl,?_⟩
      unfold hyphAll
      rw [hpe]
      generalize patOf p=q at hok
      obtain ⟨w,l,ok⟩:=q
      have hok':ok=false:=hok
      subst hok'
      rfl
    | true =>
      obtain ⟨f1,f2,f3,f4⟩:=patOf_fit p hok
      obtain ⟨lab1,g1,h2,h3⟩:=h.addW (patOf p).1 h.pos
      obtain ⟨i1,i2,i3⟩:=g1.inv.adds h3 (l:=(patOf p).2.1) f1
      have hB':∀ u k,Mx (fun a=>B u k a∨PA [p] u k a) ((val (addTo (addW σ 0 (patOf p).1).1 (addW σ 0 (patOf p).1).2 (patOf p).2.1) 0 u).getD k 0):=fun u k=>by
        rw [i3,g1.val u 0 h.pos]
        by_cases hu:u=(patOf p).1
        · rw [if_pos hu]
          refine ((hB u k).max (Mx.row f3 k)).congr fun a=>or_congr Iff.rfl ⟨fun ⟨ha,hb⟩=>⟨p,List.mem_cons_self ..,hu.symm,ha,hb⟩,fun ⟨q,hq,_,ha,hb⟩=>?_⟩
          have:q=p:=by simpa using hq
          subst this
          exact ⟨ha,hb⟩
        · rw [if_neg hu]
          refine (hB u k).congr fun a=>⟨.inl,fun ha=>ha.elim id fun ⟨q,hq,hw,_⟩=>?_⟩
          have:q=p:=by simpa using hq
          subst this
          exact absurd hw.symm hu
      have hun:hyphAll F (p :: r) σ=hyphAll F r (addTo (addW σ 0 (patOf p).1).1 (addW σ 0 (patOf p).1).2 (patOf p).2.1):=by
        conv=>lhs; unfold hyphAll
        rw [hpe]
        have hif:(patOf p).1.length < 4611686018427387904∧(patOf p).2.1.length < 4294967296∧(patOf p).2.1≠[]∧(patOf p).2.1.length≤(lvOf (rowed (addW σ 0 (patOf p).1).1 (addW σ 0 (patOf p).1).2 (patOf p).2.1.length) (addW σ 0 (patOf p).1).2).length :=
          ⟨by omega,by omega,fun h0=>by rw [h0] at f1; simp at f1,i2⟩
        generalize hq:patOf p=q at hok hif
        obtain ⟨w,l,ok⟩:=q
        have hok':ok=true:=hok
        subst hok'
        exact if_pos hif
      rw [hun,List.all_cons,hok,Bool.true_and]
      rcases hyphAll_eq F r i1 (fun q hq=>hp q (List.mem_cons_of_mem _ hq)) hB' with hh | ⟨ha,τ,lab',hb,hc,hd⟩
      · exact .inl hh
      · refine .inr ⟨ha,τ,lab',hb,hc,fun u k=>(hd u k).congr fun a=>⟨?_,?_⟩⟩
        · rintro ((h1 | ⟨q,hq,h1⟩) | ⟨q,hq,h1⟩)
          · exact .inl h1
          · have:q=p:=by simpa using hq
            subst this
            exact .inr ⟨q,List.mem_cons_self ..,h1⟩
          · exact .inr ⟨q,List.mem_cons_of_mem _ hq,h1⟩
        · rintro (h1 | ⟨q,hq,h1⟩)
          · exact .inl (.inl h1)
          · rcases List.mem_cons.1 hq with rfl | hq
            · exact .inl (.inr ⟨q,List.mem_cons_self ..,h1⟩)
            · exact .inr ⟨q,hq,h1⟩
theorem val_append {σ:Sto} {u v:List UInt8} {n:Nat} (h:look σ 0 u=some n):val σ 0 (u++v)=val σ n v:=by
  rw [val_look,val_look,look_append σ u v 0 n h]
theorem goK_eq {σ:Sto} {lab:Nat→List UInt8} (h:Inv σ lab) {A:List UInt8→Nat→Int→Prop} (hA:∀ u k,Mx (A u k) ((val σ 0 u).getD k 0)) (i:Nat):∀ (r u:List UInt8) (n:Nat) (lv:List Int) (B:Nat→Int→Prop),look σ 0 u=some n→i+u.length+r.length+1≤lv.length→(∀ g,Mx (B g) (lv.getD g 0)) →
    ∃ lv',goK σ i r n lv=some lv'∧lv'.length=lv.length∧∀ g,Mx (fun a=>B g a∨(i≤g∧∃ v,v≠[]∧v <+: r∧A (u++v) (g - i) a)) (lv'.getD g 0)
  | [],u,n,lv,B,hl,hlen,hB=>⟨lv,rfl,rfl,fun g=>(hB g).congr fun a=>⟨.inl,fun ha=>ha.elim id fun ⟨_,v,hv,hp,_⟩=>absurd (List.prefix_nil.1 hp) hv⟩⟩
  | c :: r,u,n,lv,B,hl,hlen,hB=>by
    simp only [List.length_cons] at hlen
    unfold goK
    cases hf:findCh (chOf σ n) c.toNat with
    | none =>
      refine ⟨lv,rfl,rfl,fun g=>(hB g).extra ?_⟩
      rintro a ⟨_,v,hv,hp,ha⟩
      cases v with
      | nil=>exact absurd rfl hv
      | cons d v =>
        obtain ⟨rfl,_⟩:=List.cons_prefix_cons.1 hp
        have h0:val σ 0 (u++d :: v)=[]:=by
          rw [val_append hl]
          unfold val
          rw [hf]
        have:=(hA (u++d :: v) (g - i)).2.2 a ha
        rw [h0] at this
        exact this
    | some j =>
      have hl':look σ 0 (u++[c])=some j:=by
        rw [look_append σ u [c] 0 n hl]
        unfold look
        rw [hf]
        rfl
      have hval:val σ 0 (u++[c])=lvOf σ j:=by
        rw [val_look,hl']
      have hrow:(lvOf σ j).length≤u.length+2:=by
        rw [lvOf_lvo]
        cases hv:lvo σ j with
        | none=>exact Nat.zero_le _
        | some l =>
          have:=h.row j l hv
          rw [(h.look _ 0 j h.pos hl').2,h.root] at this
          simp at this
          simp [this]
      have hB':∀ g,Mx (fun a=>B g a∨(i≤g∧A (u++[c]) (g - i) a)) ((maxInto lv i (lvOf σ j)).getD g 0):=fun g=>by
        have hAg:=hA (u++[c]) (g - i)
        rw [hval] at hAg
        rw [maxInto_get _ lv i g (by omega)]
        by_cases hg:i≤g
        · by_cases hg2:g < i+(lvOf σ j).length
          · rw [if_pos ⟨hg,hg2⟩]
            exact ((hB g).max hAg).congr fun a=>or_congr Iff.rfl ⟨fun ha=>⟨hg,ha⟩,fun ha=>ha.2⟩
          · rw [if_neg (by omega)]
            rw [getD_out (l:=lvOf σ j) (by omega)] at hAg
            exact (hB g).extra fun a ha=>hAg.2.2 a ha.2
        · rw [if_neg (by omega)]
          exact (hB g).extra fun a ha=>absurd ha.1 hg
      obtain ⟨lv',h1,h2,h3⟩:=goK_eq h hA i r (u++[c]) j (maxInto lv i (lvOf σ j)) _ hl' (by rw [maxInto_length,List.length_append]; simp only [List.length_cons,List.length_nil]; omega) hB'
      refine ⟨lv',?_,by rw [h2,maxInto_length],fun g=>(h3 g).congr fun a=>⟨?_,?_⟩⟩
      · simp only
        rw [if_pos (by omega)]
        exact h1
      · rintro ((ha | ⟨hg,ha⟩) | ⟨hg,v,hv,hp,ha⟩)
        · exact .inl ha
        · exact .inr ⟨hg,[c],by simp,List.cons_prefix_cons.2 ⟨rfl,List.nil_prefix⟩,ha⟩
        · exact .inr ⟨hg,c :: v,by simp,List.cons_prefix_cons.2 ⟨rfl,hp⟩,by rw [List.append_assoc] at ha; exact ha⟩
      · rintro (ha | ⟨hg,v,hv,hp,ha⟩)
        · exact .inl (.inl ha)
        · cases v with
          | nil=>exact absurd rfl hv
          | cons d v =>
            obtain ⟨rfl,hp'⟩:=List.cons_prefix_cons.1 hp
            by_cases hv':v=[]
            · subst hv'
              exact .inl (.inr ⟨hg,ha⟩)
            · exact .inr ⟨hg,v,hv',hp',by rw [List.append_assoc]; exact ha⟩
theorem goI_eq {σ:Sto} {lab:Nat→List UInt8} (h:Inv σ lab) {A:List UInt8→Nat→Int→Prop} (hA:∀ u k,Mx (A u k) ((val σ 0 u).getD k 0)):∀ (S:List UInt8) (i:Nat) (lv:List Int) (B:Nat→Int→Prop),i+S.length+1≤lv.length→(∀ g,Mx (B g) (lv.getD g 0)) →
    ∃ lv',goI σ S i lv=some lv'∧lv'.length=lv.length∧∀ g,Mx (fun a=>B g a∨∃ d v,v≠[]∧v <+: S.drop d∧i+d≤g∧A v (g - (i+d)) a) (lv'.getD g 0)
  | [],i,lv,B,hlen,hB=>⟨lv,rfl,rfl,fun g=>(hB g).congr fun a=>⟨.inl,fun ha=>ha.elim id fun ⟨d,v,hv,hp,_⟩=>absurd (List.prefix_nil.1 (by rw [List.drop_nil] at hp; exact hp)) hv⟩⟩
  | c :: r,i,lv,B,hlen,hB=>by
    simp only [List.length_cons] at hlen
    obtain ⟨lv1,a1,a2,a3⟩:=goK_eq h hA i (c :: r) [] 0 lv B rfl (by simp only [List.length_cons,List.length_nil]; omega) hB
    obtain ⟨lv2,b1,b2,b3⟩:=goI_eq h hA r (i+1) lv1 _ (by omega) a3
    refine ⟨lv2,?_,by rw [b2,a2],fun g=>(b3 g).congr fun a=>⟨?_,?_⟩⟩
    · unfold goI
      rw [a1]
      exact b1
    · rintro ((ha | ⟨hg,v,hv,hp,ha⟩) | ⟨d,v,hv,hp,hg,ha⟩)
      · exact .inl ha
      · exact .inr ⟨0,v,hv,hp,hg,ha⟩
      · exact .inr ⟨d+1,v,hv,hp,by omega,by rw [show i+(d+1)=i+1+d by omega]; exact ha⟩
    · rintro (ha | ⟨d,v,hv,hp,hg,ha⟩)
      · exact .inl (.inl ha)
      · cases d with
        | zero=>exact .inl (.inr ⟨hg,v,hv,hp,ha⟩)
        | succ d=>exact .inr ⟨d,v,hv,hp,by omega,by rw [show i+1+d=i+(d+1) by omega]; exact ha⟩
end Go.Vm.ParM
