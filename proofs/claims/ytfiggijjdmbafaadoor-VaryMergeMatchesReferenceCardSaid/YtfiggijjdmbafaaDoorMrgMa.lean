/-
  vary.Merge,plain law 1: the reference's filling as a recursion on the rest,for the two fields of the law.
-/
import Derived.Test.YtfiggijjdmbafaaDoorMrgLg
namespace Go.Vm.MrgG
theorem e45 (c:UInt8):((c.toNat:Int) == (45:Int))=(c == 45):=eqb c 45
theorem e123 (c:UInt8):((c.toNat:Int) == (123:Int))=(c == 123):=eqb c 123
theorem e125 (c:UInt8):((c.toNat:Int) == (125:Int))=(c == 125):=eqb c 125
theorem e63 (c:UInt8):((c.toNat:Int) == (63:Int))=(c == 63):=eqb c 63
theorem e33 (c:UInt8):((c.toNat:Int) == (33:Int))=(c == 33):=eqb c 33
theorem ecc (c d:UInt8):((c.toNat:Int) == (d.toNat:Int))=(c == d):=eqb c d
/-- Letters of names. -/
def nc (c:UInt8):Bool:=bif bif az c then true else dg c then true else c == 45
/-- How many of them stand ahead. -/
def nl:List UInt8→Nat
  | []=>0
  | c :: s=>bif nc c then nl s+1 else 0
theorem nl_le:∀ s:List UInt8,nl s≤s.length
  | []=>Nat.le_refl _
  | c :: s=>by
    have:=nl_le s
    rw [nl,List.length_cons]
    cases nc c
    · exact Nat.zero_le _
    · show nl s+1≤_; omega
def lk (row:List (List UInt8)) (x:List UInt8):Option (List UInt8):=bif x == [97] then row[0]? else bif x == [98,50] then row[1]? else none
def putS (o:List UInt8) (st:List Bool) (x:List UInt8):List UInt8:=bif (bif st.headD false then decide ((o.length:Int)≤8192) else false) then o++x else o
def two (c:UInt8) (s:List UInt8):Bool:=bif (bif c == 123 then true else c == 125) then s.head? == some c else false
/-- The filling: what is left,the groups that are open (the innermost first),what is written. -/
def mg (row:List (List UInt8)):Nat→List UInt8→List Bool→List UInt8→(List UInt8×List Bool) ⊕ Int
  | _,[],st,o=>.inl (o,st)
  | 0,_ :: _,_,_=>.inr 0
  | n+1,c :: s,st,o =>
    bif two c s then mg row n s.tail st (putS o st [c])
    else bif c == 125 then (bif ((st.length:Int) == 1) then .inr 5 else mg row n s st.tail o)
    else bif c != 123 then mg row n s st (putS o st [c])
    else match s.drop (nl s) with
      | []=>.inr 12
      | m :: r =>
        bif (bif (bif m != 125 then m != 63 else false) then m != 33 else false) then .inr 5
        else match lk row (s.take (nl s)) with
          | none=>.inr 6
          | some v =>
            bif m == 125 then mg row n r st (putS o st v)
            else bif decide ((st.length:Int) > 16) then .inr 15
            else mg row n r ((bif st.headD false then (!(v == [])) == (m == 63) else false) :: st) o
theorem name_L3 (F:Nat) (a:List UInt8) (hs:a.length≤4294967280):∀ (t:List UInt8) (n i:Nat),a.drop i=t→i≤a.length→t.length < n→ref3_Merged_L3 F a n i=some ((i+nl t:Nat):Int):=by
  intro t
  induction t with
  | nil =>
    intro n i ht hi hn
    obtain ⟨n,rfl⟩:∃ k,n=k+1:=⟨n - 1,by omega⟩
    have:=drop_nil ht hi
    subst this
    have hz:∀ (b:Bool) (k:Option Int),chk ((b && (false == true && true))=true→0≤(a.length:Int)∧(a.length:Int) < (a.length:Int)) k=k:=fun b k=>chk_pos fun h=>by cases b <;> cases h
    have hz1:∀ (k:Option Int),chk ((false == true && true)=true→0≤(a.length:Int)∧(a.length:Int) < (a.length:Int)) k=k:=fun k=>chk_pos fun h=>by cases h
    rw [ref3_Merged_L3,dec_end]
    simp only [hz,hz1,lett_eq,dgR]
    have hb:∀ b:Bool,(b && (false == true && true))=false:=fun b=>by cases b <;> rfl
    simp only [hb,cond_false,call_some,hz,nl,Nat.add_zero]
  | cons c t ih =>
    intro n i ht hi hn
    simp only [List.length_cons] at hn
    obtain ⟨n,rfl⟩:∃ k,n=k+1:=⟨n - 1,by omega⟩
    obtain ⟨hlt,hx,ht'⟩:=drop_cons ht
    have hci:∀ (b:Bool) (k:Option Int),chk (b=true→0≤(i:Int)∧(i:Int) < (a.length:Int)) k=k:=fun p k=>chk_pos fun _=>⟨by omega,by omega⟩
    rw [ref3_Merged_L3,dec_lt hlt,wrap_succ (show i < 9223372036854775807 by omega)]
    simp only [nat_toNat,getD_of hx,lett_eq,hci,dgR,e45]
    rw [ih n (i+1) ht' hlt (by omega),nl]
    unfold nc
    rw [show (bif decide ((c.toNat:Int) ≥ 97) then decide ((c.toNat:Int)≤122) else false)=az c from rfl]
    cases az c <;> cases dg c <;> cases c == 45 <;> first | rfl | (show some _=some _; congr 1; show ((i+1+nl t:Nat):Int)=((i+(nl t+1):Nat):Int); omega)
end Go.Vm.MrgG
