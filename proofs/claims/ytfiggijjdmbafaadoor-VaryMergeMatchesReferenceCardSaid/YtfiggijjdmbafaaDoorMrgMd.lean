/-
  vary.Merge,plain law 4: the merger's words: put,names,fields,prefixes.
-/
import Derived.Test.YtfiggijjdmbafaaDoorMrgMc
namespace Go.Vm.MrgG
theorem idx_splitG (cs l:List UInt8):(Lib.indexAny l cs = -1∧∀ b∈l,cs.contains b=false) ∨
    ∃ t c rest,l=t++c :: rest∧(∀ b∈t,cs.contains b=false)∧cs.contains c=true∧Lib.indexAny l cs=(t.length:Int):=by
  induction l with
  | nil=>exact .inl ⟨rfl,by simp⟩
  | cons b l ih =>
    rw [Lib.indexAny]
    cases hb:cs.contains b
    · rw [if_neg (by simp)]
      rcases ih with ⟨h1,h2⟩ | ⟨t,c,rest,rfl,h2,h3,h4⟩
      · left
        rw [h1]
        exact ⟨by rfl,fun x hx=>by rcases List.mem_cons.1 hx with rfl | hx; exact hb; exact h2 x hx⟩
      · right
        refine ⟨b :: t,c,rest,rfl,fun x hx=>by rcases List.mem_cons.1 hx with rfl | hx; exact hb; exact h2 x hx,h3,?_⟩
        rw [h4,if_neg (by simp only [beq_iff_eq]; omega)]
        simp
    · exact .inr ⟨[],b,l,rfl,by simp,hb,rfl⟩
theorem nb_of {t:List UInt8} (h:∀ b∈t,([123,125]:List UInt8).contains b=false):nb t:=fun c hc=>by
  have:=h c hc
  simp only [List.contains_cons,List.contains_nil,Bool.or_false,Bool.or_eq_false_iff] at this
  exact ⟨beq_eq_false_iff_ne.1 this.1,beq_eq_false_iff_ne.1 this.2⟩
theorem brace_of {c:UInt8} (h:([123,125]:List UInt8).contains c=true):c=123∨c=125:=by simpa using h
/-- Where the next brace stands. -/
def stop (t:List UInt8):Int:=bif decide (Lib.indexAny t ([123,125]:List UInt8) < 0) then (t.length:Int) else Lib.indexAny t ([123,125]:List UInt8)
theorem stop_split (t:List UInt8):∃ ch r,t=ch++r∧nb ch∧stop t=(ch.length:Int)∧(r=[]∨∃ c s,r=c :: s∧(c=123∨c=125)):=by
  unfold stop
  rcases idx_splitG [123,125] t with ⟨h1,h2⟩ | ⟨ch,c,s,h0,h2,h3,h4⟩
  · rw [h1]
    exact ⟨t,[],by simp,nb_of h2,rfl,.inl rfl⟩
  · rw [h4,decide_eq_false (by omega),cond_false]
    exact ⟨ch,c :: s,h0,nb_of h2,rfl,.inr ⟨c,s,rfl,brace_of h3⟩⟩
theorem vput (F:Nat) (x:List UInt8) (b:Bool) (st:List Bool) (c2:List (List UInt8)) (c3:List (List (List UInt8))) (c4:List (List UInt8)) (c5 o:List UInt8) (hx:x.length≤10000) :
    vary_merger_put F x b c2 c3 c4 c5 o=some (c2,c3,c4,c5,putS o (b :: st) x):=by
  unfold vary_merger_put putS
  rw [show (b :: st).headD false=b from rfl]
  cases h:(bif b then decide ((o.length:Int)≤8192) else false)
  · rfl
  · have ho:o.length≤8192:=by
      cases b
      · cases h
      · have:=of_decide_eq_true (show decide ((o.length:Int)≤8192)=true from h); omega
    rw [cond_true,cond_true,strings_Builder_WriteString_v1,chk_pos (by omega)]
    rfl
theorem pre2 (F:Nat) (k c:UInt8) (s:List UInt8):strings_HasPrefix F (c :: s) [k,k]=some (bif c == k then s.head? == some k else false):=by
  unfold strings_HasPrefix internal_stringslite_HasPrefix
  cases s with
  | nil =>
    rw [show (decide ((([c]:List UInt8).length:Int) ≥ (([k,k]:List UInt8).length:Int)))=false from rfl,chk_pos (fun h=>by cases h)]
    cases c == k <;> rfl
  | cons d s =>
    have h:(decide (((c :: d :: s).length:Int) ≥ (([k,k]:List UInt8).length:Int)))=true:=decide_eq_true (by simp only [List.length_cons,List.length_nil]; omega)
    rw [chk_pos (fun _=>⟨by omega,by simp,by simp only [List.length_cons,List.length_nil]; omega⟩),h]
    show some (([c,d]:List UInt8) == [k,k])=some (bif c == k then (some d == some k) else false)
    show some (c == k && (d == k && true))=some (bif c == k then (d == k) else false)
    rw [Bool.and_true]
    cases c == k <;> rfl
theorem vfield_idx (F:Nat) (hF:3≤F) (x:List UInt8):slices_Index_string F fs2 x=some (fi x):=by
  obtain ⟨n,hn⟩:∃ n,F=n+3:=⟨F - 3,by omega⟩
  unfold slices_Index_string fi
  rw [hn]
  rw [slices_Index_string_L0,show decide ((0:Int) < (fs2.length:Int))=true from rfl,cond_true,chk_pos ⟨by decide,by decide⟩,show fs2.getD (0:Int).toNat []=[97] from rfl]
  cases x == [97]
  · rw [cond_false,cond_false,show IntKind.i64.wrap ((0:Int)+1)=1 from rfl,slices_Index_string_L0,show decide ((1:Int) < (fs2.length:Int))=true from rfl,cond_true,chk_pos ⟨by decide,by decide⟩,show fs2.getD (1:Int).toNat []=[98,50] from rfl]
    cases x == [98,50]
    · rw [cond_false,cond_false,show IntKind.i64.wrap ((1:Int)+1)=2 from rfl,slices_Index_string_L0,show decide ((2:Int) < (fs2.length:Int))=false from rfl,cond_false]
      rfl
    · rfl
  · rfl
theorem vname_L0 (F:Nat) (a:List UInt8) (hs:a.length≤4294967280):∀ (t:List UInt8) (n i:Nat),a.drop i=t→i≤a.length→t.length < n→vary_merger_open_L0 F a n i=some ((i+nl t:Nat):Int):=by
  intro t
  induction t with
  | nil =>
    intro n i ht hi hn
    obtain ⟨n,rfl⟩:∃ k,n=k+1:=⟨n - 1,by omega⟩
    have:=drop_nil ht hi
    subst this
    have hz:∀ (b:Bool) (k:Option Int),chk ((b && (false == true && true))=true→0≤(a.length:Int)∧(a.length:Int) < (a.length:Int)) k=k:=fun b k=>chk_pos fun h=>by cases b <;> cases h
    have hz2:∀ (b c:Bool) (k:Option Int),chk ((b && (c && (false == true && true)))=true→0≤(a.length:Int)∧(a.length:Int) < (a.length:Int)) k=k:=fun b c k=>chk_pos fun h=>by cases b <;> cases c <;> cases h
    have hz1:∀ (k:Option Int),chk ((false == true && true)=true→0≤(a.length:Int)∧(a.length:Int) < (a.length:Int)) k=k:=fun k=>chk_pos fun h=>by cases h
    rw [vary_merger_open_L0,dec_end]
    simp only [hz,hz1,hz2,lett_eq]
    rfl
  | cons c t ih =>
    intro n i ht hi hn
    simp only [List.length_cons] at hn
    obtain ⟨n,rfl⟩:∃ k,n=k+1:=⟨n - 1,by omega⟩
    obtain ⟨hlt,hx,ht'⟩:=drop_cons ht
    have hci:∀ (b:Bool) (k:Option Int),chk (b=true→0≤(i:Int)∧(i:Int) < (a.length:Int)) k=k:=fun p k=>chk_pos fun _=>⟨by omega,by omega⟩
    rw [vary_merger_open_L0,dec_lt hlt,wrap_succ (show i < 9223372036854775807 by omega)]
    simp only [nat_toNat,getD_of hx,lett_eq,hci,e45]
    rw [ih n (i+1) ht' hlt (by omega),nl]
    have h1:(bif decide ((97:Int)≤(c.toNat:Int)) then decide ((c.toNat:Int)≤122) else false)=az c:=rfl
    have h2:(bif decide ((48:Int)≤(c.toNat:Int)) then decide ((c.toNat:Int)≤57) else false)=dg c:=rfl
    rw [h1,h2]
    unfold nc
    cases az c <;> cases dg c <;> cases c == 45 <;> first | rfl | (show some _=some _; congr 1; show ((i+1+nl t:Nat):Int)=((i+(nl t+1):Nat):Int); omega)
def fin:(List UInt8×List Bool) ⊕ Int→Int
  | .inr e=>e
  | .inl (_,s)=>bif decide ((s.length:Int) > 1) then 12 else 0
theorem fin_R {a b} (h:R a b):fin a=fin b:=by
  match a,b,h with
  | .inl (_,_),.inl (_,_),h=>obtain ⟨_,rfl⟩:=h; rfl
  | .inr _,.inr _,h=>obtain rfl:=h; rfl
  | .inl (_,_),.inr _,h=>exact h.elim
  | .inr _,.inl (_,_),h=>exact h.elim
end Go.Vm.MrgG
