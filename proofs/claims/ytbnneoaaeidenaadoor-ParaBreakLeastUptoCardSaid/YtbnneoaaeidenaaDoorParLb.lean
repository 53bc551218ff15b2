/-
  para.Break: the parts of words,as both sides list them.
-/
import Derived.Test.YtbnneoaaeidenaaDoorParLa
namespace Go.Vm.ParM
/-- A part: its width,what is added before it,whether it is the first or the last of its word,and its word. -/
structure Part where
  w:Int
  j:Int
  first:Bool
  last:Bool
  word:Int
def toQ (r:Part):S_para_part:=⟨r.w,r.j,r.first,r.last⟩
def toP (r:Part):S_ref3_Piece:=⟨r.w,r.j,r.word,r.last⟩
def part (k:Nat) (x:S_ParaWord) (i:Nat):Part:=⟨x.f0.getD i 0,if i=0 then 0 else x.f1.getD (i - 1) 0,i == 0,i+1 == x.f0.length,(k:Int)⟩
def partsFrom (k:Nat) (x:S_ParaWord):Nat→Nat→List Part
  | _,0=>[]
  | i,n+1=>part k x i :: partsFrom k x (i+1) n
def recs1 (k:Nat) (x:S_ParaWord):List Part:=partsFrom k x 0 x.f0.length
def recs:Nat→List S_ParaWord→List Part
  | _,[]=>[]
  | k,x :: r=>recs1 k x++recs (k+1) r
theorem partsFrom_length (k:Nat) (x:S_ParaWord):∀ (n i:Nat),(partsFrom k x i n).length=n
  | 0,_=>rfl
  | n+1,i=>by rw [partsFrom,List.length_cons,partsFrom_length k x n]
def Fits (x:S_ParaWord):Prop:=x.f1.length+1=x.f0.length
theorem last_eq {i n:Nat} (h:i < n) (hn:n≤300):((i:Int) == IntKind.i64.wrap ((n:Int) - 1))=(i+1 == n):=by
  rw [wrap_id (by omega),Bool.eq_iff_iff]
  simp only [beq_iff_eq]
  omega
theorem last_eq' {i n:Nat} (h:i < n) (hn:n≤300):(IntKind.i64.wrap ((i:Int)+1) == (n:Int))=(i+1 == n):=by
  rw [wrap_id (by omega),Bool.eq_iff_iff]
  simp only [beq_iff_eq]
  omega
theorem first_eq (i:Nat):((i:Int) == 0)=(i == 0):=by
  rw [Bool.eq_iff_iff]
  simp only [beq_iff_eq]
  omega
theorem pos_eq (i:Nat):decide ((i:Int) > 0) = !(i == 0):=by
  cases i with
  | zero=>rfl
  | succ i=>simp
theorem flat2 (F:Nat) (a0:List S_ParaWord) (k:Nat) {x:S_ParaWord} (hx:a0.getD k (S_ParaWord.mk [] [])=x) (hf:Fits x) (hl:x.f0.length≤300):∀ (d i n:Nat) (v:List S_para_part) (u:List S_ref3_Piece),i+d=x.f0.length→d < n→v.length+d≤10000→u.length+d≤10000 →
    para_flat_L2 F a0 (k:Int) n v (i:Int)=some (v++(partsFrom k x i d).map toQ)∧ref3_Pieces_L2 F a0 (k:Int) n u (i:Int)=some (u++(partsFrom k x i d).map toP)
  | d,i,0,v,u,_,h,_,_=>absurd h (Nat.not_lt_zero _)
  | 0,i,n+1,v,u,h,_,_,_=>by
    have hi:i=x.f0.length:=by omega
    subst hi
    unfold para_flat_L2 ref3_Pieces_L2
    rw [nat_toNat,hx,dec_end]
    simp [partsFrom]
  | d+1,i,n+1,v,u,h,hn,hv,hu=>by
    have hi:i < x.f0.length:=by omega
    have ih:=fun v u h1 h2=>flat2 F a0 k hx hf hl d (i+1) n v u (by omega) (by omega) h1 h2
    have hff:x.f1.length+1=x.f0.length:=hf
    unfold para_flat_L2 ref3_Pieces_L2
    simp only [nat_toNat,hx,dec_lt hi,cond_true,chk_in hi,lett_eq,last_eq hi hl,last_eq' hi hl,first_eq,pos_eq]
    rw [wrap_succ (i:=i) (by omega)]
    have hj:(bif (!(i == 0)) then chk (0≤IntKind.i64.wrap ((i:Int) - 1)∧IntKind.i64.wrap ((i:Int) - 1) < (x.f1.length:Int)) (some (x.f1.getD (IntKind.i64.wrap ((i:Int) - 1)).toNat 0)) else some 0)=some (if i=0 then 0 else x.f1.getD (i - 1) 0):=by
      cases i with
      | zero=>rfl
      | succ i =>
        have e:IntKind.i64.wrap (((i+1:Nat):Int) - 1)=(i:Int):=by rw [wrap_id (by omega)]; omega
        rw [e,chk_in (by omega),nat_toNat]
        simp
    rw [hj]
    simp only [call_some]
    rw [chk_pos (by simp; omega),chk_pos (by simp; omega)]
    have h1:=(ih (v++[S_para_part.mk (x.f0.getD i 0) (if i=0 then 0 else x.f1.getD (i - 1) 0) (i == 0) (i+1 == x.f0.length)]) u (by simp; omega) (by omega)).1
    have h2:=(ih v (u++[S_ref3_Piece.mk (x.f0.getD i 0) (if i=0 then 0 else x.f1.getD (i - 1) 0) (k:Int) (i+1 == x.f0.length)]) (by omega) (by simp; omega)).2
    rw [h1,h2,List.append_assoc,List.append_assoc]
    exact ⟨rfl,rfl⟩
theorem flat0 (F:Nat) (hF:400≤F) (a0:List S_ParaWord) (hs:∀ x∈a0,Fits x∧x.f0.length≤300) (ha:a0.length≤8):∀ (d i n:Nat) (v:List S_para_part) (u:List S_ref3_Piece),i+d=a0.length→d < n→v.length≤i * 300→u.length≤i * 300 →
    para_flat_L0 F a0 n v (i:Int)=some (v++(recs i (a0.drop i)).map toQ)∧ref3_Pieces_L0 F a0 n u (i:Int)=some (u++(recs i (a0.drop i)).map toP)
  | d,i,0,v,u,_,h,_,_=>absurd h (Nat.not_lt_zero _)
  | 0,i,n+1,v,u,h,_,_,_=>by
    have hi:i=a0.length:=by omega
    subst hi
    unfold para_flat_L0 ref3_Pieces_L0
    rw [dec_end,List.drop_length]
    simp [recs]
  | d+1,i,n+1,v,u,h,hn,hv,hu=>by
    have hi:i < a0.length:=by omega
    obtain ⟨x,hx⟩:∃ x,a0[i]=x:=⟨_,rfl⟩
    have hg:a0.getD i (S_ParaWord.mk [] [])=x:=by rw [List.getD_eq_getElem?_getD,List.getElem?_eq_getElem hi,hx]; rfl
    obtain ⟨hf,hl⟩:=hs x (by rw [← hx]; exact List.getElem_mem hi)
    obtain ⟨e1,e2⟩:=flat2 F a0 i hg hf hl x.f0.length 0 F v u (by omega) (by omega) (by omega) (by omega)
    rw [show ((0:Nat):Int)=0 from rfl] at e1 e2
    unfold para_flat_L0 ref3_Pieces_L0
    simp only [dec_lt hi,cond_true,chk_in hi]
    rw [e1,e2]
    simp only [call_some]
    rw [wrap_succ (i:=i) (by omega)]
    have hq:(partsFrom i x 0 x.f0.length).length≤300:=by rw [partsFrom_length]; exact hl
    have ih:=flat0 F hF a0 hs ha d (i+1) n (v++(partsFrom i x 0 x.f0.length).map toQ) (u++(partsFrom i x 0 x.f0.length).map toP) (by omega) (by omega) (by simp; omega) (by simp; omega)
    rw [ih.1,ih.2,List.drop_eq_getElem_cons hi,hx,recs,List.map_append,List.map_append,List.append_assoc,List.append_assoc]
    exact ⟨rfl,rfl⟩
theorem flat_eq (F:Nat) (hF:400≤F) (a0:List S_ParaWord) (hs:∀ x∈a0,Fits x∧x.f0.length≤300) (ha:a0.length≤8):para_flat F a0=some ((recs 0 a0).map toQ)∧ref3_Pieces F a0=some ((recs 0 a0).map toP):=by
  obtain ⟨h1,h2⟩:=flat0 F hF a0 hs ha a0.length 0 F [] [] (by omega) (by omega) (by simp) (by simp)
  rw [show ((0:Nat):Int)=0 from rfl] at h1 h2
  unfold para_flat ref3_Pieces
  rw [h1,h2]
  exact ⟨rfl,rfl⟩
/-- Neighbours: the second begins a word just where the words differ. -/
def Adj:List Part→Prop
  | a :: b :: r=>(b.word == a.word) = !b.first∧Adj (b :: r)
  | _=>True
theorem Adj.get:∀ {l:List Part} {i:Nat} {a b:Part},Adj l→l[i]? = some a→l[i+1]? = some b→(b.word == a.word) = !b.first
  | x :: y :: r,0,a,b,h,ha,hb=>by
    simp at ha hb
    subst ha hb
    exact h.1
  | x :: y :: r,i+1,a,b,h,ha,hb=>Adj.get (l:=y :: r) h.2 (by simpa using ha) (by simpa using hb)
  | [x],i,a,b,_,_,hb=>by simp at hb
  | [],i,a,b,_,_,hb=>by simp at hb
theorem adj_parts (k:Nat) (x:S_ParaWord):∀ (n i:Nat),0 < i→∀ (t:List Part),(∀ b,t.head? = some b→b.first=true∧(b.word == (k:Int))=false)→Adj t→∀ a:Part,a.word=(k:Int)→Adj (a :: (partsFrom k x i n++t))
  | 0,i,hi,t,ht,hA,a,ha=>by
    rw [partsFrom,List.nil_append]
    match t,ht,hA with
    | [],_,_=>trivial
    | b :: r,ht,hA =>
      refine ⟨?_,hA⟩
      obtain ⟨h1,h2⟩:=ht b rfl
      rw [ha,h1,h2]
      rfl
  | n+1,i,hi,t,ht,hA,a,ha=>by
    rw [partsFrom,List.cons_append]
    refine ⟨?_,adj_parts k x n (i+1) (by omega) t ht hA (part k x i) rfl⟩
    have:(i == 0)=false:=by simp; omega
    simp [part,ha,this]
theorem recs_head:∀ (l:List S_ParaWord) (k:Nat),(∀ x∈l,Fits x)→∀ b,(recs k l).head? = some b→b.first=true∧∀ m:Nat,m < k→(b.word == (m:Int))=false
  | [],_,_,b,h=>by cases h
  | x :: r,k,hs,b,h=>by
    have hf:x.f1.length+1=x.f0.length:=hs x (by simp)
    obtain ⟨n,hn⟩:∃ n,x.f0.length=n+1:=⟨x.f0.length - 1,by omega⟩
    rw [recs,recs1,hn,partsFrom] at h
    simp at h
    subst h
    refine ⟨rfl,fun m hm=>?_⟩
    simp [part]
    omega
theorem adj_recs:∀ (l:List S_ParaWord) (k:Nat),(∀ x∈l,Fits x)→Adj (recs k l)
  | [],_,_=>trivial
  | x :: r,k,hs=>by
    have hf:x.f1.length+1=x.f0.length:=hs x (by simp)
    obtain ⟨n,hn⟩:∃ n,x.f0.length=n+1:=⟨x.f0.length - 1,by omega⟩
    rw [recs,recs1,hn,partsFrom,List.cons_append]
    refine adj_parts k x n 1 (by omega) _ (fun b hb=>?_) (adj_recs r (k+1) fun y hy=>hs y (by simp [hy])) _ rfl
    obtain ⟨h1,h2⟩:=recs_head r (k+1) (fun y hy=>hs y (by simp [hy])) b hb
    exact ⟨h1,h2 k (by omega)⟩
end Go.Vm.ParM
