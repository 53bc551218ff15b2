/-
  vary.Parse,plain law 5: texts that are quoted,and their lengths.
-/
import Derived.Test.YtfiggijjdmbafaaDoorMrgLd
namespace Go.Vm.MrgG
def cnt:List UInt8→Nat
  | []=>0
  | c :: s=>(bif c == 34 then 1 else 0)+cnt s
def mk:List UInt8→Bool
  | []=>false
  | c :: s=>chars.contains c || mk s
def marks (a:List UInt8):Bool:=bif a == [] then true else mk a
def ql (a:List UInt8):Nat:=a.length+cnt a+(bif marks a then 2 else 0)
theorem cnt_le:∀ s:List UInt8,cnt s≤s.length
  | []=>Nat.le_refl _
  | c :: s=>by
    have:=cnt_le s
    rw [cnt,List.length_cons]
    cases c == 34
    · show 0+cnt s≤_; omega
    · show 1+cnt s≤_; omega
theorem cnt_append:∀ a b:List UInt8,cnt (a++b)=cnt a+cnt b
  | [],b=>by simp [cnt]
  | c :: a,b=>by rw [List.cons_append,cnt,cnt,cnt_append a b]; omega
theorem cnt_mk:∀ s:List UInt8,mk s=false→cnt s=0
  | [],_=>rfl
  | c :: s,h=>by
    rw [mk,Bool.or_eq_false_iff] at h
    rw [cnt,(chars_f h.1).1,cnt_mk s h.2]
    rfl
theorem any_mk:∀ s:List UInt8,Lib.containsAny s chars=mk s
  | []=>rfl
  | c :: s=>by
    have ih:=any_mk s
    unfold Lib.containsAny at ih ⊢
    rw [Lib.indexAny,mk]
    cases hc:chars.contains c
    · rw [if_neg (by simp),Bool.false_or,← ih]
      have:=Lib.indexAny_ge chars s
      by_cases h:Lib.indexAny s chars = -1
      · rw [h]; rfl
      · rw [if_neg (by simpa using h)]
        rw [decide_eq_true (by omega),decide_eq_true (by omega)]
    · rfl
/-! ## ReplaceAll at one byte -/
theorem split34 (l:List UInt8):(Lib.index l [34] = -1∧cnt l=0)∨∃ t rest,l=t++34 :: rest∧cnt t=0∧Lib.index l [34]=(t.length:Int):=by
  induction l with
  | nil=>exact .inl ⟨rfl,rfl⟩
  | cons b l ih =>
    rw [Lib.index,cnt]
    have hp:List.isPrefixOf [34] (b :: l)=(b == 34):=by
      show ((34:UInt8) == b && true)=_
      rw [Bool.and_true]; exact BEq.comm
    rw [hp]
    cases hb:b == 34
    · rw [if_neg (by simp)]
      rcases ih with ⟨h1,h2⟩ | ⟨t,rest,rfl,h3,h4⟩
      · rw [h1,h2]
        exact .inl ⟨rfl,rfl⟩
      · right
        refine ⟨b :: t,rest,rfl,by rw [cnt,hb,h3]; rfl,?_⟩
        rw [h4,if_neg (by simp only [beq_iff_eq]; omega)]
        simp
    · right
      have:b=34:=by simpa using hb
      subst this
      exact ⟨[],l,rfl,rfl,rfl⟩
theorem count_from:∀ (n:Nat) (s:List UInt8),s.length < n→Lib.countFrom [34] n s=cnt s:=by
  intro n
  induction n with
  | zero=>intro s h; omega
  | succ n ih =>
    intro s h
    rw [Lib.countFrom]
    rcases split34 s with ⟨h1,h2⟩ | ⟨t,rest,h0,h3,h4⟩
    · rw [h1,h2]; rfl
    · rw [h4,if_neg (by simp only [beq_iff_eq]; omega),nat_toNat]
      subst h0
      rw [show ([34]:List UInt8).length=1 from rfl,show t++34 :: rest=(t++[34])++rest by simp,show t.length+1=(t++[34]).length by simp,List.drop_left,
        ih rest (by simp only [List.length_append,List.length_cons] at h; omega),cnt_append,cnt_append,h3]
      show 1+cnt rest=0+(1+0)+cnt rest
      omega
theorem count_eq (s:List UInt8):Lib.count s [34]=cnt s:=count_from _ s (by omega)
theorem replK:∀ (k:Nat) (s:List UInt8),cnt s=k→(Lib.replaceK [34] [34,34] k s).length=s.length+k:=by
  intro k
  induction k with
  | zero=>intro s _; rfl
  | succ k ih =>
    intro s h
    rcases split34 s with ⟨h1,h2⟩ | ⟨t,rest,h0,h3,h4⟩
    · omega
    · rw [Lib.replaceK_hit _ _ _ _ _ h4]
      subst h0
      have hr:cnt rest=k:=by
        rw [cnt_append,h3,cnt] at h
        change 0+(1+cnt rest)=k+1 at h
        omega
      rw [show ([34]:List UInt8).length=1 from rfl,show (t++34 :: rest).drop (t.length+1)=rest by
        rw [show t++34 :: rest=(t++[34])++rest by simp,show t.length+1=(t++[34]).length by simp,List.drop_left]]
      rw [List.length_append,ih rest hr,List.take_left]
      simp only [List.length_append,List.length_cons,List.length_nil]
      omega
theorem repl_len (s:List UInt8):(Lib.replaceAll s [34] [34,34]).length=s.length+cnt s:=by
  unfold Lib.replaceAll Lib.replace
  rw [if_neg (by decide)]
  have:Lib.replaceNum s [34] (-1)=cnt s:=by
    unfold Lib.replaceNum
    rw [if_pos (.inl (by decide)),count_eq]
  rw [this]
  exact replK _ s rfl
theorem vquoted (F:Nat) (a:List UInt8) (hs:a.length≤65536):∃ w,vary_quoted F a=some w∧w.length=ql a:=by
  unfold vary_quoted
  have hc:=cnt_le a
  rw [chk_pos (fun _=>by omega),show ([44,34,10]:List UInt8)=chars from rfl,any_mk]
  have hm:(bif (!(a == [])) then (!(mk a)) else false) = !(marks a):=by unfold marks; cases a == [] <;> rfl
  rw [hm]
  unfold ql
  cases hk:marks a
  · refine ⟨a,rfl,?_⟩
    have:mk a=false:=by
      unfold marks at hk
      cases h:a == []
      · rw [h] at hk; exact hk
      · rw [h] at hk; cases hk
    rw [cnt_mk a this]
    rfl
  · rw [Bool.not_true,cond_false,count_eq,chk_pos ⟨by omega,by decide,by show a.length+cnt a * 2≤_; omega⟩]
    have hl:=repl_len a
    have h2:(([34]:List UInt8)++Lib.replaceAll a [34] [34,34]).length=1+(a.length+cnt a):=by rw [List.length_append,hl]; rfl
    rw [chk_pos (by rw [hl]; show 1+_≤_; omega),chk_pos (by rw [h2]; show _+1≤_; omega),lett_eq]
    refine ⟨_,rfl,?_⟩
    rw [List.length_append,h2]
    show 1+(a.length+cnt a)+1=a.length+cnt a+2
    omega
end Go.Vm.MrgG
