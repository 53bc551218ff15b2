/-
  archive: the parts of a text between bytes,in both texts.
-/
import Derived.Test.YtflaiaeofndgmaaGreatDoorArF
import Derived.Test.YtflaiaeofndgmaaGreatDoorArNf
import Derived.Test.YtflaiaeofndgmaaGreatDoorVmC
namespace Go.Vm.ArzG.L
/-- The parts of a text between the bytes b. -/
def spl (b:UInt8):List UInt8→List (List UInt8)
 | []=>[[]]
 | c :: r=>if c=b then [] :: spl b r else match spl b r with
  | []=>[[c]]
  | h :: t=>(c :: h) :: t
theorem spl_ne (b:UInt8):∀ s,spl b s≠[]
 | []=>by simp [spl]
 | c :: r=>by
  unfold spl
  split
  ·simp
  ·split <;> simp
theorem spl_none {b:UInt8}:∀ {s:List UInt8},b ∉ s→spl b s=[s]
 | [],_=>rfl
 | c :: r,h=>by
  have h1:c≠b:=fun e=>h (e ▸ List.mem_cons_self)
  have h2:b ∉ r:=fun e=>h (List.mem_cons_of_mem _ e)
  rw [spl,if_neg h1,spl_none h2]
theorem spl_some {b:UInt8}:∀ {p q:List UInt8},b ∉ p→spl b (p++b :: q)=p :: spl b q
 | [],q,_=>by rw [List.nil_append,spl,if_pos rfl]
 | c :: r,q,h=>by
  have h1:c≠b:=fun e=>h (e ▸ List.mem_cons_self)
  have h2:b ∉ r:=fun e=>h (List.mem_cons_of_mem _ e)
  rw [List.cons_append,spl,if_neg h1,spl_some h2]
theorem spl_len (b:UInt8):∀ (s:List UInt8),((spl b s).map List.length).sum+(spl b s).length=s.length+1
 | []=>rfl
 | c :: r=>by
  have ih:=spl_len b r
  rw [spl]
  split
  ·simp; omega
  ·split
   ·rename_i h; exact absurd h (spl_ne b r)
   ·rename_i h t hq
    rw [hq] at ih
    simp at ih ⊢
    omega
theorem idx_cases (b:UInt8):∀ s:List UInt8,(b ∉ s∧Lib.indexByte s b = -1)∨∃ p q,s=p++b :: q∧b ∉ p∧Lib.indexByte s b=(p.length:Int)
 | []=>.inl ⟨by simp,rfl⟩
 | c :: r=>by
  by_cases h:c=b
  ·subst h
   exact .inr ⟨[],r,rfl,by simp,by simp [Lib.indexByte]⟩
  ·have hb:(c == b)=false:=by rw [beq_eq_false_iff_ne]; exact h
   rcases idx_cases b r with ⟨h1,h2⟩ | ⟨p,q,rfl,h1,h2⟩
   ·refine .inl ⟨fun hm=>?_,?_⟩
    ·rcases List.mem_cons.1 hm with e | e
     ·exact h e.symm
     ·exact h1 e
    ·rw [Lib.indexByte,hb,h2]
     rfl
   ·refine .inr ⟨c :: p,q,rfl,fun hm=>?_,?_⟩
    ·rcases List.mem_cons.1 hm with e | e
     ·exact h e.symm
     ·exact h1 e
    ·rw [Lib.indexByte,hb,h2]
     have:((p.length:Int) == -1)=false:=by rw [beq_eq_false_iff_ne]; omega
     rw [this]
     simp
/-- What the list of parts is behind a byte. -/
def add (b c:UInt8) (l:List (List UInt8)):List (List UInt8):=if c=b then l++[[]] else l.set (l.length - 1) (l.getD (l.length - 1) []++[c])
def glue (a:List UInt8):List (List UInt8)→List (List UInt8)
 | []=>[a]
 | h :: t=>(a++h) :: t
theorem Parts_L0 {F:Nat} (b:UInt8) (s:List UInt8) (hs:s.length≤4000000):∀ (xs:List UInt8) (i n:Nat) (L:List (List UInt8)) (a:List UInt8),s.drop i=xs→i+xs.length=s.length→xs.length < n→L.length+xs.length≤4000000→a.length+xs.length≤4000000 →
  ref3_Parts_L0 F s ((b.toNat:Nat):Int) n (L++[a]) (i:Int)=some (L++glue a (spl b xs))
 | [],i,n,L,a,hd,hl,hn,hL,ha=>by
  obtain ⟨n,rfl⟩:∃ q,n=q+1:=⟨n - 1,by omega⟩
  have:i=s.length:=by simpa using hl
  subst this
  rw [ref3_Parts_L0,dec_end,cond_false]
  simp [spl,glue]
 | c :: r,i,n,L,a,hd,hl,hn,hL,ha=>by
  obtain ⟨n,rfl⟩:∃ q,n=q+1:=⟨n - 1,by omega⟩
  have h1:i < s.length:=by simp at hl; omega
  have h2:=List.drop_eq_getElem_cons h1
  rw [hd] at h2
  injection h2 with h3 h4
  have h5:s.getD i 0=c:=by rw [List.getD_eq_getElem?_getD,List.getElem?_eq_getElem h1,← h3]; rfl
  have hr:r.length < n:=by simp at hn; omega
  rw [ref3_Parts_L0,dec_lt h1,cond_true,chk_in h1,Int.toNat_natCast,h5]
  simp only [List.length_cons] at hl hL ha
  by_cases hc:c=b
  ·subst hc
   rw [beq_self_eq_true,cond_true,chk_pos (by simp; omega),call_some,wrap_succ (by omega),Parts_L0 c s hs r (i+1) n (L++[a]) [] h4.symm (by omega) hr (by simp; omega) (by simp; omega),spl,if_pos rfl]
   have:glue [] (spl c r)=spl c r:=by
    cases h:spl c r with
    | nil=>exact absurd h (spl_ne c r)
    | cons x t=>rfl
   rw [this]
   simp [glue]
  ·have hb:(((c.toNat:Nat):Int) == ((b.toNat:Nat):Int))=false:=by
    rw [beq_eq_false_iff_ne]
    intro e
    exact hc (UInt8.toNat_inj.1 (by omega))
   have hw:IntKind.i64.wrap (((L++[a]).length:Int) - 1)=((L.length:Nat):Int):=by
    rw [wrap_id (by simp; omega)]
    simp
   have ht:(s.drop i).take (i+1 - i)=[c]:=by
    rw [hd,show i+1 - i=1 by omega]
    rfl
   rw [hb,cond_false,hw,chk_pos ⟨by omega,by simp; omega⟩,wrap_succ (by omega),chk_pos ⟨by omega,by omega,by omega⟩]
   simp only [Int.toNat_natCast,ht]
   have hg:(L++[a]).getD L.length []=a:=by simp
   rw [hg,chk_pos (by simp; omega),lett_eq,chk_pos ⟨by omega,by simp; omega⟩,call_some]
   have hset:(L++[a]).set L.length (a++[c])=L++[a++[c]]:=by simp
   rw [hset,Parts_L0 b s hs r (i+1) n L (a++[c]) h4.symm (by omega) hr (by omega) (by simp; omega),spl,if_neg hc]
   cases h:spl b r with
   | nil=>exact absurd h (spl_ne b r)
   | cons x t=>simp [glue]
theorem Parts_eq {F:Nat} (b:UInt8) (s:List UInt8) (hs:s.length≤3000000) (hF:s.length < F):ref3_Parts F s ((b.toNat:Nat):Int)=some (spl b s):=by
 unfold ref3_Parts
 rw [show ref3_Parts_L0 F s ((b.toNat:Nat):Int) F [[]] 0=_ from Parts_L0 b s (by omega) s 0 F [] [] rfl (by simp) hF (by simp; omega) (by simp; omega),call_some,List.nil_append]
 cases h:spl b s with
 | nil=>exact absurd h (spl_ne b s)
 | cons x t=>rfl
theorem drop_take_all (q:List UInt8) (p:List UInt8) (b:UInt8):((p++b :: q).drop (p.length+1)).take ((p++b :: q).length - (p.length+1))=q:=by
 have:(p++b :: q).drop (p.length+1)=q:=by
  rw [← List.drop_drop,List.drop_left]
  rfl
 rw [this,List.take_of_length_le (by simp; omega)]
theorem Cut_none {F:Nat} {b:UInt8} {s:List UInt8} (h:b ∉ s):ArzN.strings_Cut F s [b]=some (s,[],false):=by
 unfold ArzN.strings_Cut ArzN.internal_stringslite_Cut
 rcases idx_cases b s with ⟨_,h2⟩ | ⟨p,q,rfl,_,_⟩
 ·rw [chk_pos (by rfl),show ([b]:List UInt8).getD 0 0=b from rfl,h2]
  rfl
 ·exact absurd (by simp) h
theorem Cut_some {F:Nat} {b:UInt8} {p q:List UInt8} (h:b ∉ p) (hl:(p++b :: q).length≤4000000):ArzN.strings_Cut F (p++b :: q) [b]=some (p,q,true):=by
 unfold ArzN.strings_Cut ArzN.internal_stringslite_Cut
 have hi:Lib.indexByte (p++b :: q) b=(p.length:Int):=by
  rcases idx_cases b (p++b :: q) with ⟨h1,_⟩ | ⟨p',q',he,h1,h2⟩
  ·exact absurd (by simp) h1
  ·rw [h2]
   have e1:=spl_some (q:=q) h
   have e2:=spl_some (q:=q') h1
   rw [he,e2] at e1
   injection e1 with e3 _
   rw [e3]
 have hlen:(p++b :: q).length=p.length+1+q.length:=by simp; omega
 have hw:IntKind.i64.wrap ((p.length:Int)+(([b]:List UInt8).length:Int))=((p.length+1:Nat):Int):=by
  rw [wrap_id (by simp; omega)]
  simp
 rw [chk_pos (by rfl),show ([b]:List UInt8).getD 0 0=b from rfl,hi,decide_eq_true (by omega),cond_true,chk_pos ⟨by omega,by omega,by omega⟩,hw,chk_pos ⟨by omega,by omega,by omega⟩,lett_eq,call_some]
 simp only [Int.toNat_natCast]
 rw [drop_take_all]
 simp
theorem count_none {b:UInt8} {s:List UInt8} (h:b ∉ s):Lib.countByte s b=0:=List.count_eq_zero.2 h
theorem count_some {b:UInt8} {p q:List UInt8} (h:b ∉ p):Lib.countByte (p++b :: q) b=Lib.countByte q b+1:=by
 unfold Lib.countByte
 rw [List.count_append,List.count_cons_self,List.count_eq_zero.2 h]
 omega
theorem count_le (b:UInt8) (s:List UInt8):Lib.countByte s b≤s.length:=List.count_le_length
theorem split_L0 {F:Nat} (b:UInt8) (z1:Nat) (hz:z1≤4000000):∀ (k:Nat) (xs:List UInt8) (done:List (List UInt8)) (n:Nat),Lib.countByte xs b=k→done.length+k+1=z1→k < n→xs.length≤4000000 →
  ∃ init last,ArzN.strings_genSplit_L0 F [b] 0 (z1:Int) n xs (done++List.replicate (k+1) []) (done.length:Int)=some (last,done++init++[[]],((z1 - 1:Nat):Int))∧spl b xs=init++[last]∧init.length=k
 | 0,xs,done,n,hc,hd,hn,hx=>by
  obtain ⟨n,rfl⟩:∃ q,n=q+1:=⟨n - 1,by omega⟩
  have hm:b ∉ xs:=List.count_eq_zero.1 hc
  refine ⟨[],xs,?_,by rw [spl_none hm]; rfl,rfl⟩
  rw [ArzN.strings_genSplit_L0,wrap_pred (by omega) (by omega),decide_eq_false (by omega),cond_false,show z1 - 1=done.length by omega]
  simp
 | k+1,xs,done,n,hc,hd,hn,hx=>by
  obtain ⟨n,rfl⟩:∃ q,n=q+1:=⟨n - 1,by omega⟩
  rcases idx_cases b xs with ⟨h1,_⟩ | ⟨p,q,rfl,h1,h2⟩
  ·rw [count_none h1] at hc
   cases hc
  ·rw [count_some h1] at hc
   have hlen:(p++b :: q).length=p.length+1+q.length:=by simp; omega
   obtain ⟨init,last,h3,h4,h5⟩:=split_L0 b z1 hz k q (done++[p]) n (by omega) (by simp; omega) (by omega) (by omega)
   refine ⟨p :: init,last,?_,by rw [spl_some h1,h4]; rfl,by simp [h5]⟩
   have hw:IntKind.i64.wrap ((p.length:Int)+(([b]:List UInt8).length:Int))=((p.length+1:Nat):Int):=by
    rw [wrap_id (by simp; omega)]
    simp
   have hw0:IntKind.i64.wrap ((p.length:Int)+0)=(p.length:Int):=by rw [Int.add_zero,wrap_id (by omega)]
   rw [ArzN.strings_genSplit_L0,wrap_pred (by omega) (by omega),decide_eq_true (by omega),cond_true,chk_pos (by rfl),show ([b]:List UInt8).getD 0 0=b from rfl,h2,decide_eq_false (by omega),cond_false,hw0,chk_pos ⟨by omega,by omega,by omega⟩,lett_eq,chk_pos ⟨by omega,by simp; omega⟩,hw,chk_pos ⟨by omega,by omega,by omega⟩,lett_eq,wrap_succ (by omega)]
   simp only [Int.toNat_natCast]
   rw [drop_take_all]
   have hset:(done++List.replicate (k+1+1) []).set done.length (((p++b :: q).drop (0:Int).toNat).take (p.length - (0:Int).toNat))=done++[p]++List.replicate (k+1) []:=by
    have:((p++b :: q).drop (0:Int).toNat).take (p.length - (0:Int).toNat)=p:=by simp
    rw [this,List.replicate_succ]
    simp
   rw [hset]
   have e:((done.length+1:Nat):Int)=(((done++[p]).length:Nat):Int):=by simp
   rw [e,h3]
   simp
theorem Split_eq {F:Nat} (b:UInt8) (s:List UInt8) (hs:s.length≤3000000) (hF:s.length < F):ArzN.strings_Split F s [b]=some (spl b s):=by
 have hc:=count_le b s
 unfold ArzN.strings_Split ArzN.strings_genSplit
 have hw:IntKind.i64.wrap (((Lib.countByte s b:Nat):Int)+1)=((Lib.countByte s b+1:Nat):Int):=wrap_succ (by omega)
 have hw2:IntKind.i64.wrap (((s.length:Nat):Int)+1)=((s.length+1:Nat):Int):=wrap_succ (by omega)
 have hm:(if ((s.length+1:Nat):Int) < ((Lib.countByte s b+1:Nat):Int) then ((s.length+1:Nat):Int) else ((Lib.countByte s b+1:Nat):Int))=((Lib.countByte s b+1:Nat):Int):=if_neg (by omega)
 obtain ⟨init,last,h1,h2,h3⟩:=split_L0 (F:=F) b (Lib.countByte s b+1) (by omega) (Lib.countByte s b) s [] F rfl (by simp) (by omega) (by omega)
 rw [show ((-1:Int) == 0)=false from rfl,cond_false,show (([b]:List UInt8) == [])=false from rfl,cond_false,show decide ((-1:Int) < 0)=true from rfl,cond_true,chk_pos (by rfl),show ([b]:List UInt8).getD 0 0=b from rfl,hw,call_some,hw2,hm,lett_eq,chk_pos ⟨by omega,by omega,by omega,by omega⟩,Int.toNat_natCast]
 have h1':ArzN.strings_genSplit_L0 F [b] 0 ((Lib.countByte s b+1:Nat):Int) F s (List.replicate (Lib.countByte s b+1) []) 0=some (last,[]++init++[[]],((Lib.countByte s b+1 - 1:Nat):Int)):=h1
 rw [h1',call_some]
 simp only [List.nil_append,Nat.add_sub_cancel]
 rw [chk_pos ⟨by omega,by simp; omega⟩,wrap_succ (by omega),chk_pos ⟨by omega,by simp; omega⟩,call_some,h2]
 simp only [Int.toNat_natCast]
 congr 1
 rw [← h3]
 simp [List.take_of_length_le]
end Go.Vm.ArzG.L
