/-
  para.Hyphens: letters; patterns as both sides read them.
-/
import Derived.Test.YtbnneoaaeidenaaDoorParLa
import Derived.Test.YtbnneoaaeidenaaDoorParHe
namespace Go.Vm.ParM
def low (c:UInt8):Bool:=decide (97≤c.toNat) && decide (c.toNat≤122)
def abc:List UInt8:=[97,98,99,100,101,102,103,104,105,106,107,108,109,110,111,112,113,114,115,116,117,118,119,120,121,122]
theorem low_abc (c:UInt8):abc.contains c=low c:=by
  have h:=(by decide +kernel:∀ n:Fin 256,abc.contains (UInt8.ofNat n.val)=low (UInt8.ofNat n.val)) ⟨c.toNat,c.toNat_lt⟩
  simpa using h
theorem dropWhile_nil {p:UInt8→Bool}:∀ {l:List UInt8},l.dropWhile p=[]↔l.all p=true
  | []=>by simp
  | x :: l=>by
    rw [List.dropWhile_cons,List.all_cons]
    cases hx:p x with
    | true=>simpa using dropWhile_nil (l:=l)
    | false=>simp
theorem dropWhile_head {p:UInt8→Bool}:∀ {l:List UInt8} {x:UInt8} {r:List UInt8},l.dropWhile p=x :: r→p x=false
  | y :: l,x,r,h=>by
    rw [List.dropWhile_cons] at h
    cases hy:p y with
    | true=>rw [hy,if_pos rfl] at h; exact dropWhile_head h
    | false =>
      rw [hy] at h
      simp at h
      rw [← h.1,hy]
theorem trim_nil (l cs:List UInt8):Lib.trimS l cs=[]↔l.all (fun c=>cs.contains c)=true:=by
  unfold Lib.trimS Lib.trimLeftS Lib.trimRightS
  rw [dropWhile_nil]
  cases h:l.reverse.dropWhile (fun c=>cs.contains c) with
  | nil =>
    have:=dropWhile_nil.1 h
    rw [List.all_reverse] at this
    simp only [List.reverse_nil,List.all_nil,this]
  | cons x r =>
    have h1:=dropWhile_head h
    constructor
    · intro h2
      rw [List.all_reverse,List.all_cons,h1] at h2
      cases h2
    · intro h2
      have:=dropWhile_nil.2 (show l.reverse.all (fun c=>cs.contains c)=true by rw [List.all_reverse]; exact h2)
      rw [h] at this
      cases this
theorem trim_beq (l cs:List UInt8):(Lib.trimS l cs == [])=l.all (fun c=>cs.contains c):=by
  rw [Bool.eq_iff_iff,beq_iff_eq,trim_nil]
def goodW (w:List UInt8):Bool:=bif (bif !(w == []) then decide ((w.length:Int)≤31) else false) then w.all low else false
theorem letters_eq (F:Nat) (w:List UInt8) (h:w.length≤9223372036854775807):ParG.para_letters F w=some (goodW w):=by
  unfold ParG.para_letters
  rw [chk_pos (fun _=>h),lett_eq,lett_eq]
  show some (bif (bif !(w == []) then decide ((w.length:Int)≤31) else false) then (Lib.trimS w abc == []) else false)=_
  rw [trim_beq]
  unfold goodW
  rw [show (fun c=>abc.contains c)=low from funext low_abc]
theorem D0 (F:Nat) (a0:List UInt8) (ha:a0.length≤4294967296):∀ (d i n:Nat) (v:Bool),i+d=a0.length→d < n→ref3_Divided_L0 F a0 n v (i:Int)=some (bif v then (a0.drop i).all low else false)
  | d,i,0,v,_,h=>absurd h (Nat.not_lt_zero _)
  | 0,i,n+1,v,h,_=>by
    unfold ref3_Divided_L0
    rw [show i=a0.length by omega,dec_end,List.drop_length]
    cases v <;> rfl
  | d+1,i,n+1,v,h,hn=>by
    have hi:i < a0.length:=by omega
    unfold ref3_Divided_L0
    rw [dec_lt hi,cond_true,chk_pos (fun _=>⟨by omega,by omega⟩),chk_pos (fun _=>⟨by omega,by omega⟩),lett_eq,wrap_succ (by omega),D0 F a0 ha d (i+1) n _ (by omega) (by omega),nat_toNat,List.drop_eq_getElem_cons hi,List.all_cons]
    have hg:a0.getD i 0=a0[i]:=by rw [List.getD_eq_getElem?_getD,List.getElem?_eq_getElem hi]; rfl
    rw [hg]
    have e1:decide (((a0[i].toNat:Nat):Int) ≥ 97)=decide (97≤a0[i].toNat):=by rw [Bool.eq_iff_iff]; simp; omega
    have e2:decide (((a0[i].toNat:Nat):Int)≤122)=decide (a0[i].toNat≤122):=by rw [Bool.eq_iff_iff]; simp; omega
    rw [e1,e2]
    unfold low
    cases v <;> cases decide (97≤a0[i].toNat) <;> cases decide (a0[i].toNat≤122) <;> rfl
def dig (c:UInt8):Bool:=decide (49≤c.toNat) && decide (c.toNat≤57)
/-- A character that is no letter and no point at an end. -/
def odd1 (W:List UInt8) (i len:Nat) (c:UInt8):Bool:=bif c == 46 then !(bif W == [] then true else i+1 == len) else !low c
def dots (W:List UInt8):Bool:=W.any (fun c => !(c == 46))
theorem beq46 (c:UInt8):(((c.toNat:Nat):Int) == 46)=(c == 46):=by
  rw [Bool.eq_iff_iff,beq_iff_eq,beq_iff_eq]
  constructor
  · intro h
    have:c.toNat=46:=by omega
    rw [← UInt8.ofNat_toNat (x:=c),this]
    rfl
  · rintro rfl
    rfl
theorem bne46 (c:UInt8):(((c.toNat:Nat):Int) != 46) = !(c == 46):=by rw [bne,beq46]
theorem dig_a (c:UInt8):(bif decide ((49:Int)≤(c.toNat:Int)) then decide ((c.toNat:Int)≤57) else false)=dig c:=by
  unfold dig
  rw [and_cond]
  congr 1 <;> (rw [Bool.eq_iff_iff]; simp only [decide_eq_true_eq]; omega)
theorem dig_b (c:UInt8):(bif decide ((c.toNat:Int) ≥ (49:Int)) then decide ((c.toNat:Int)≤57) else false)=dig c:=by
  unfold dig
  rw [and_cond]
  congr 1 <;> (rw [Bool.eq_iff_iff]; simp only [decide_eq_true_eq]; omega)
theorem low_n (c:UInt8):(bif decide ((c.toNat:Int) < 97) then true else decide ((c.toNat:Int) > 122)) = !low c:=by
  unfold low
  rw [or_cond,Bool.not_and]
  congr 1 <;> (rw [Bool.eq_iff_iff]; simp only [decide_eq_true_eq,Bool.not_eq_true',decide_eq_false_iff_not]; omega)
theorem dig_low {c:UInt8} (h:dig c=true):low c=false∧(c == 46)=false:=by
  simp only [dig,Bool.and_eq_true,decide_eq_true_eq] at h
  refine ⟨by simp only [low,Bool.and_eq_false_imp,decide_eq_true_eq,decide_eq_false_iff_not]; omega,?_⟩
  rw [beq_eq_false_iff_ne]
  rintro rfl
  have:(46:UInt8).toNat=46:=rfl
  omega
theorem dig_val {c:UInt8} (h:dig c=true):IntKind.i64.wrap (IntKind.u8.wrap (((c.toNat:Nat):Int) - 48))=(c.toNat:Int) - 48∧IntKind.i64.wrap (IntKind.i64.wrap ((c.toNat:Nat):Int) - 48)=(c.toNat:Int) - 48:=by
  simp only [dig,Bool.and_eq_true,decide_eq_true_eq] at h
  have e:IntKind.u8.wrap (((c.toNat:Nat):Int) - 48)=(c.toNat:Int) - 48:=by
    unfold IntKind.wrap
    simp [IntKind.bits,IntKind.signed]
    omega
  rw [e,wrap_id (x:=((c.toNat:Nat):Int)) (by omega),wrap_id (by omega)]
  exact ⟨rfl,rfl⟩
/-- A round of reading a pattern. -/
def stepP (len i:Nat) (c:UInt8) (W:List UInt8) (L:List Int):Option (List UInt8×List Int) :=
  bif dig c then (bif L.getD (L.length - 1) 0 != 0 then none else some (W,L.set (L.length - 1) ((c.toNat:Int) - 48)))
  else bif odd1 W i len c then none else some (W++[c],L++[0])
def readP (len:Nat):Nat→List UInt8→List UInt8→List Int→Option (List UInt8×List Int)
  | _,[],W,L=>some (W,L)
  | i,c :: r,W,L=>match stepP len i c W L with
    | none=>none
    | some (W',L')=>readP len (i+1) r W' L'
theorem P0 (F:Nat) (a0:List UInt8) (ha:a0.length≤2097152):∀ (d i n:Nat) (W:List UInt8) (L:List Int),i+d=a0.length→d < n→L.length=W.length+1→W.length≤i →
    ParG.para_pattern_L0 F a0 n W L (L.getD (L.length - 1) 0 != 0) (i:Int)=some (match readP a0.length i (a0.drop i) W L with | none=>.esc ([],[],false) | some (W',L')=>.go (W',L'))
  | d,i,0,W,L,_,h,_,_=>absurd h (Nat.not_lt_zero _)
  | 0,i,n+1,W,L,h,_,_,_=>by
    unfold ParG.para_pattern_L0
    rw [show i=a0.length by omega,dec_end,List.drop_length]
    rfl
  | d+1,i,n+1,W,L,h,hn,hL,hW=>by
    have hi:i < a0.length:=by omega
    obtain ⟨c,hc⟩:∃ c,a0[i]=c:=⟨_,rfl⟩
    have hg:a0.getD i 0=c:=by rw [List.getD_eq_getElem?_getD,List.getElem?_eq_getElem hi,hc]; rfl
    unfold ParG.para_pattern_L0
    rw [dec_lt hi,cond_true,chk_in hi,lett_eq,nat_toNat,hg,dig_a,wrap_succ (i:=i) (by omega),List.drop_eq_getElem_cons hi,hc,readP]
    unfold stepP
    rw [wrap_pred (i:=L.length) (by omega) (by omega)]
    cases hd:dig c with
    | true =>
      obtain ⟨h1,h2⟩:=dig_low hd
      cases hz:(L.getD (L.length - 1) 0 != 0) with
      | false =>
        rw [chk_in (show L.length - 1 < L.length by omega),nat_toNat,(dig_val hd).1]
        simp only [cond_true,Bool.not_false,callE_go]
        have hne:((L.set (L.length - 1) ((c.toNat:Int) - 48)).getD ((L.set (L.length - 1) ((c.toNat:Int) - 48)).length - 1) 0 != 0)=true:=by
          rw [List.length_set,List.getD_eq_getElem?_getD,List.getElem?_set_self (by omega)]
          simp only [dig,Bool.and_eq_true,decide_eq_true_eq] at hd
          simp
          omega
        have:=P0 F a0 ha d (i+1) n W (L.set (L.length - 1) ((c.toNat:Int) - 48)) (by omega) (by omega) (by rw [List.length_set]; exact hL) (by omega)
        rw [hne] at this
        rw [this]
        simp
      | true =>
        rw [lett_eq,lett_eq,beq46,bne46,h2,low_n,h1]
        rfl
    | false =>
      simp only [cond_false]
      have hv5:(call (lett (bif (((c.toNat:Nat):Int) == 46) then (decide ((W.length:Int) > 0)) else false) fun z2 =>
            bif (bif z2 then (decide ((i:Int) < (IntKind.i64.wrap ((a0.length:Int) - 1)))) else false) then
              some (bif z2 then (decide ((i:Int) < (IntKind.i64.wrap ((a0.length:Int) - 1)))) else false)
            else
              lett ((bif (decide (((c.toNat:Nat):Int) < 97)) then true else (decide (((c.toNat:Nat):Int) > 122)))) fun z3 =>
              some (bif (((c.toNat:Nat):Int) != 46) then z3 else false)) (fun v=>some v))=some (odd1 W i a0.length c):=by
        rw [lett_eq,lett_eq,beq46,bne46,low_n,wrap_pred (by omega) (by omega)]
        unfold odd1
        cases h46:(c == 46) with
        | false =>
          simp only [cond_false,Bool.not_false,cond_true]
          rfl
        | true =>
          simp only [cond_true,Bool.not_true,cond_false]
          cases W with
          | nil=>rfl
          | cons x W =>
            rw [show decide (((x :: W).length:Int) > 0)=true from decide_eq_true (by simp)]
            simp only [cond_true]
            by_cases hl:i+1=a0.length
            · rw [decide_eq_false (by omega)]
              simp [hl,call]
            · rw [decide_eq_true (by omega)]
              have:(i+1 == a0.length)=false:=by simpa using hl
              simp [this,call]
      have hcall:∀ {α:Type} (m:Option Bool) (k:Bool→Option α),call m k=call (call m fun v=>some v) k:=fun m k=>by cases m <;> rfl
      rw [hcall,hv5,call_some]
      cases ho:odd1 W i a0.length c with
      | true=>rfl
      | false =>
        simp only [cond_false]
        have hwb:ParG.strings_Builder_WriteByte F ((c.toNat:Nat):Int) W=some ((),W++[c]):=by
          unfold ParG.strings_Builder_WriteByte
          have:((c.toNat:Nat):Int).toNat=c.toNat:=rfl
          rw [chk_pos (by have:=c.toNat_lt; omega),chk_pos (by simp; omega),this,UInt8.ofNat_toNat]
        rw [hwb,call_some,chk_pos (by simp; omega)]
        simp only [callE_go]
        have:=P0 F a0 ha d (i+1) n (W++[c]) (L++[0]) (by omega) (by omega) (by simp; omega) (by simp; omega)
        have hz:((L++[0]).getD ((L++[0]).length - 1) 0 != 0)=false:=by
          rw [List.length_append,List.getD_eq_getElem?_getD]
          simp
        rw [hz] at this
        rw [this]
theorem B0 (F:Nat) (a0:List UInt8) (ha:a0.length≤2097152):∀ (d i n:Nat) (W:List UInt8) (L:List Int),i+d=a0.length→d < n→L.length=W.length+1→W.length≤i →
    ref3_bare_L0 F a0 n W (dots W) L (i:Int)=some (match readP a0.length i (a0.drop i) W L with | none=>.esc ([],[],false) | some (W',L')=>.go (W',dots W',L'))
  | d,i,0,W,L,_,h,_,_=>absurd h (Nat.not_lt_zero _)
  | 0,i,n+1,W,L,h,_,_,_=>by
    unfold ref3_bare_L0
    rw [show i=a0.length by omega,dec_end,List.drop_length]
    rfl
  | d+1,i,n+1,W,L,h,hn,hL,hW=>by
    have hi:i < a0.length:=by omega
    obtain ⟨c,hc⟩:∃ c,a0[i]=c:=⟨_,rfl⟩
    have hg:a0.getD i 0=c:=by rw [List.getD_eq_getElem?_getD,List.getElem?_eq_getElem hi,hc]; rfl
    unfold ref3_bare_L0
    rw [dec_lt hi,cond_true,chk_in hi,lett_eq,nat_toNat,hg,dig_b,wrap_succ (i:=i) (by omega),List.drop_eq_getElem_cons hi,hc,readP]
    unfold stepP
    rw [wrap_pred (i:=L.length) (by omega) (by omega)]
    cases hd:dig c with
    | true =>
      simp only [cond_true]
      rw [chk_in (show L.length - 1 < L.length by omega),nat_toNat]
      cases hz:(L.getD (L.length - 1) 0 != 0) with
      | true=>rfl
      | false =>
        rw [chk_in (show L.length - 1 < L.length by omega),(dig_val hd).2]
        simp only [cond_false,callE_go]
        exact B0 F a0 ha d (i+1) n W (L.set (L.length - 1) ((c.toNat:Int) - 48)) (by omega) (by omega) (by rw [List.length_set]; exact hL) (by omega)
    | false =>
      simp only [cond_false]
      rw [lett_eq,lett_eq,beq46,low_n,wrap_pred (i:=a0.length) (by omega) (by omega)]
      have ho:(bif (!(bif (c == 46) then (bif (W == []) then true else ((i:Int) == ((a0.length - 1:Nat):Int))) else false)) then !low c else false)=odd1 W i a0.length c:=by
        have e:((i:Int) == ((a0.length - 1:Nat):Int))=(i+1 == a0.length):=by
          rw [Bool.eq_iff_iff,beq_iff_eq,beq_iff_eq]
          omega
        rw [e]
        unfold odd1
        cases h46:(c == 46) with
        | false=>rfl
        | true =>
          have hlow:low c=false:=by
            rw [beq_iff_eq] at h46
            subst h46
            rfl
          rw [hlow]
          simp only [cond_true]
          cases (bif (W == []) then true else (i+1 == a0.length)) <;> rfl
      rw [ho]
      cases ho2:odd1 W i a0.length c with
      | true=>rfl
      | false =>
        simp only [cond_false]
        have ht:(c :: a0.drop (i+1)).take (((i+1:Nat):Int).toNat - i)=[c]:=by
          rw [nat_toNat,show i+1 - i=1 by omega]
          rfl
        rw [chk_pos (by omega),ht,chk_pos (by simp; omega),chk_pos (by simp; omega),bne46]
        simp only [callE_go]
        have hdots:(bif dots W then true else !(c == 46))=dots (W++[c]):=by
          unfold dots
          rw [List.any_append,or_cond]
          simp
        rw [hdots]
        exact B0 F a0 ha d (i+1) n (W++[c]) (L++[0]) (by omega) (by omega) (by simp; omega) (by simp; omega)
end Go.Vm.ParM
