/-
  vary.Parse,plain law 2: a value,a line.
-/
import Derived.Test.YtfiggijjdmbafaaDoorMrgLa
namespace Go.Vm.MrgG
def NG (x:Option (List (List (List UInt8))×List (List UInt8)×Int)):Prop:=∀ o r m,x=some (o,r,m)→(m == 0)=false
theorem NG.good {x} (h:NG x):good x=false:=by
  cases x with
  | none=>rfl
  | some x=>obtain ⟨o,r,m⟩:=x; rw [MrgG.good,h o r m rfl]; rfl
theorem NG.none:NG none:=fun _ _ _ h=>by cases h
def chars:List UInt8:=[44,34,10]
theorem chars_f {b:UInt8} (h:chars.contains b=false):(b == 34)=false∧(b == 44)=false∧(b == 10)=false:=by
  simp only [chars,List.contains_cons,List.contains_nil,Bool.or_false,Bool.or_eq_false_iff] at h
  exact ⟨h.2.1,h.1,h.2.2⟩
theorem chars_t {b:UInt8} (h:chars.contains b=true):b=44∨b=34∨b=10:=by
  simpa [chars] using h
theorem idx_split (l:List UInt8):(Lib.indexAny l chars = -1∧∀ b∈l,chars.contains b=false) ∨
    ∃ t c rest,l=t++c :: rest∧(∀ b∈t,chars.contains b=false)∧chars.contains c=true∧Lib.indexAny l chars=(t.length:Int):=by
  induction l with
  | nil=>exact .inl ⟨rfl,by simp⟩
  | cons b l ih =>
    rw [Lib.indexAny]
    cases hb:chars.contains b
    · rw [if_neg (by simp)]
      rcases ih with ⟨h1,h2⟩ | ⟨t,c,rest,rfl,h2,h3,h4⟩
      · left
        rw [h1]
        exact ⟨by rfl,fun x hx=>by rcases List.mem_cons.1 hx with rfl | hx; exact hb; exact h2 x hx⟩
      · right
        refine ⟨b :: t,c,rest,rfl,fun x hx=>by rcases List.mem_cons.1 hx with rfl | hx; exact hb; exact h2 x hx,h3,?_⟩
        rw [h4,if_neg (by simp only [beq_iff_eq]; omega)]
        simp
    · exact .inr ⟨[],b,l,rfl,by simp,hb,rfl⟩
theorem tbl1 (rest:List UInt8) (o r):∀ (t:List UInt8) (v),(∀ b∈t,chars.contains b=false)→tbl (t++rest) o r v 1=tbl rest o r (v++t) 1
  | [],v,_=>by simp
  | b :: t,v,h=>by
    obtain ⟨a1,a2,a3⟩:=chars_f (h b (List.mem_cons_self ..))
    rw [List.cons_append,tbl,a1,a2,a3]
    have:=tbl1 rest o r t (v++[b]) fun x hx=>h x (List.mem_cons_of_mem _ hx)
    rw [List.append_assoc] at this
    exact this
theorem tbl0 (rest:List UInt8) (o r) (t:List UInt8) (ht:t≠[]) (h:∀ b∈t,chars.contains b=false):tbl (t++rest) o r [] 0=tbl rest o r t 1:=by
  cases t with
  | nil=>exact absurd rfl ht
  | cons b t =>
    obtain ⟨a1,a2,a3⟩:=chars_f (h b (List.mem_cons_self ..))
    rw [List.cons_append,tbl,a1,a2,a3]
    exact tbl1 rest o r t [b] fun x hx=>h x (List.mem_cons_of_mem _ hx)
/-- Behind a value. -/
def aft (c:UInt8) (rest:List UInt8) (o:List (List (List UInt8))) (r:List (List UInt8)) (v:List UInt8) :=
  bif c == 10 then tbl rest (o++[r++[v]]) [] [] 0 else tbl rest o (r++[v]) [] 0
theorem q_L0 (F:Nat) (s:List UInt8) (hs:s.length≤4294967280):∀ (n i:Nat) (v:List UInt8),i≤s.length→s.length - i < n→v.length≤i →
    (∃ w c rest,vary_value_L0 F s n v i=some (.esc (w,((c:UInt8).toNat:Int),rest,true))∧(c=44∨c=10)∧rest.length < s.length∧∀ o r,tbl (s.drop i) o r v 2=aft c rest o r w) ∨
    ((vary_value_L0 F s n v i=some (.go ())∨vary_value_L0 F s n v i=some (.esc ([],0,[],false)))∧∀ o r,NG (tbl (s.drop i) o r v 2)):=by
  intro n
  induction n using Nat.strongRecOn with
  | ind n ih =>
    intro i v hi hn hv
    obtain ⟨n,rfl⟩:∃ k,n=k+1:=⟨n - 1,by omega⟩
    rw [vary_value_L0,wrap_succ (by omega)]
    rcases Nat.lt_or_ge (i+1) s.length with h1 | h1
    rotate_left
    · right
      rw [decide_eq_false (by omega),cond_false]
      refine ⟨.inl rfl,fun o r=>?_⟩
      rcases Nat.lt_or_ge i s.length with h2 | h2
      · rw [getD_head h2,List.drop_eq_nil_iff.2 h1,tbl]
        cases s.getD i 0 == 34
        · intro o' r' m' h; cases h; rfl
        · intro o' r' m' h; cases h; rfl
      · rw [List.drop_eq_nil_iff.2 h2]
        intro o' r' m' h; cases h; rfl
    · rw [decide_eq_true (by omega),cond_true,chk_in (by omega),chk_in (by omega)]
      simp only [nat_toNat,e34,e44,e10,n34]
      rw [getD_head (by omega:i < s.length),getD_head h1]
      cases hc:s.getD i 0 == 34
      · rw [show (s.getD i 0 != 34)=true by rw [bne,hc]; rfl,cond_true]
        have hb:chk (0≤((s.getD i 0).toNat:Int)∧((s.getD i 0).toNat:Int) < 256)=fun k:Option (Unit×List UInt8)=>k:=by
          funext k; exact chk_pos ⟨by omega,by have:=(s.getD i 0).toNat_lt; omega⟩
        rw [strings_Builder_WriteByte,hb]
        rw [chk_pos (by simp only [List.length_singleton]; omega),nat_toNat,UInt8.ofNat_toNat]
        have IH:=ih n (by omega) (i+1) (v++[s.getD i 0]) (by omega) (by omega) (by simp only [List.length_append,List.length_singleton]; omega)
        rw [getD_head h1] at IH
        have et:∀ o r,tbl (s.getD i 0 :: s.getD (i+1) 0 :: s.drop (i+1+1)) o r v 2=tbl (s.getD (i+1) 0 :: s.drop (i+1+1)) o r (v++[s.getD i 0]) 2:=fun o r=>by
          rw [tbl,hc]; rfl
        simp only [et]
        have ew:(callE (call (some ((),v++[s.getD i 0])) fun y1=>some (Out.go (y1.2,(i:Int)))) (fun e=>some (Out.esc e)) fun x:List UInt8×Int=>vary_value_L0 F s n x.1 (IntKind.i64.wrap (x.2+1)))
          = vary_value_L0 F s n (v++[s.getD i 0]) ((i+1:Nat):Int):=by
          show vary_value_L0 F s n (v++[s.getD i 0]) (IntKind.i64.wrap ((i:Int)+1))=_
          rw [wrap_succ (by omega)]
        first | rw [ew]; exact IH | exact ew ▸ IH
      · have hc':s.getD i 0=34:=by simpa using hc
        rw [show (s.getD i 0 != 34)=false by rw [bne,hc]; rfl,cond_false,chk_in h1]
        have e2:∀ o r,tbl (s.getD i 0 :: s.getD (i+1) 0 :: s.drop (i+1+1)) o r v 2=tbl (s.getD (i+1) 0 :: s.drop (i+1+1)) o r v 3:=fun o r=>by rw [tbl,hc]; rfl
        simp only [e2]
        cases hd:s.getD (i+1) 0 == 34
        · rw [cond_false,chk_pos ⟨by omega,by omega⟩,chk_pos (fun _=>⟨by omega,by omega⟩),lett_eq]
          cases hz:(bif s.getD (i+1) 0 == 44 then true else s.getD (i+1) 0 == 10)
          · right
            rw [cond_false]
            refine ⟨.inr rfl,fun o r=>?_⟩
            rw [tbl,hd,hz]
            exact NG.none
          · left
            rw [cond_true,chk_pos (by omega),chk_pos ⟨by omega,by omega⟩]
            have w2:IntKind.i64.wrap ((i:Int)+2)=((i+2:Nat):Int):=by rw [wrap_id (by omega)]; rfl
            rw [w2,chk_pos ⟨by omega,by omega,by omega⟩,lett_eq]
            refine ⟨v,s.getD (i+1) 0,s.drop (i+2),?_,?_,?_,fun o r=>?_⟩
            · simp only [nat_toNat]
              rw [List.take_of_length_le (by rw [List.length_drop]; omega)]
              rfl
            · cases ha:s.getD (i+1) 0 == 44
              · rw [ha] at hz; exact .inr (by simpa using hz)
              · exact .inl (by simpa using ha)
            · rw [List.length_drop]; omega
            · rw [tbl,hd,hz]
              rfl
        · rw [cond_true]
          rw [strings_Builder_WriteByte,chk_pos ⟨by omega,by omega⟩,chk_pos (by simp only [List.length_singleton]; omega)]
          have IH:=ih n (by omega) (i+2) (v++[34]) (by omega) (by omega) (by simp only [List.length_append,List.length_singleton]; omega)
          have et:∀ o r,tbl (s.getD (i+1) 0 :: s.drop (i+1+1)) o r v 3=tbl (s.drop (i+2)) o r (v++[34]) 2:=fun o r=>by
            rw [tbl,hd]; rfl
          simp only [et]
          have ew:(callE (call (some ((),v++[UInt8.ofNat (34:Int).toNat])) fun y2=>some (Out.go (y2.2,((i+1:Nat):Int)))) (fun e=>some (Out.esc e)) fun x:List UInt8×Int=>vary_value_L0 F s n x.1 (IntKind.i64.wrap (x.2+1)))
            = vary_value_L0 F s n (v++[34]) ((i+2:Nat):Int):=by
            show vary_value_L0 F s n (v++[34]) (IntKind.i64.wrap (((i+1:Nat):Int)+1))=_
            rw [wrap_succ (by omega)]
          first | rw [ew]; exact IH | exact ew ▸ IH
end Go.Vm.MrgG
