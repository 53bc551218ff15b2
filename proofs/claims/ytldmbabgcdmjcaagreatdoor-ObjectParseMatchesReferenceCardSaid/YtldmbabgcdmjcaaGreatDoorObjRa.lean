/-
  R.Object's walk by hand: rows of data that a walk owns; a stack of open rows. (No program in sight.)
-/
import Derived.Test.YtldmbabgcdmjcaaGreatDoorVmA
import Derived.Test.YtldmbabgcdmjcaaGreatDoorVmC
import Derived.Below
import Derived.Maps.AppendAt
namespace Go.Vm.ObjR
open Go.RowKit
section
variable {w w':World} {lo:Nat} {e:TypeId} {sz n:Nat} {v:Value} {xs:List Value} {D D':Nat→Prop} {es:List (List Dat)}
theorem jD (h:w.ownsRow lo e sz v n xs) (hb:∀ b,v.ownBlock=some b→w'.heap[b]? = w.heap[b]?):w'.ownsRow lo e sz v n xs:=by
 obtain ⟨h1,h2⟩:=h
 refine ⟨h1,?_⟩
 rcases h2 with h2 | ⟨g,cap,cur,q1,q2,q3,q4⟩
 ·exact .inl h2
 ·subst q1
  exact .inr ⟨g,cap,cur,rfl,q2,(hb g rfl).trans q3,q4⟩
/-- A row of data that the walk alone owns; what its cells refer to lies in D. -/
def uH (lo:Nat) (e:TypeId) (sz:Nat) (D:Nat→Prop) (w:World) (es:List (List Dat)) (v:Value):Prop:=∃ xs,w.ownsRow lo e sz v es.length xs∧REs D w sz es (fun j=>xs[j]?) 0
theorem uH.nil (w:World):uH lo e sz D w [] (.slice none 0 0):=⟨[],w.ownsRow_nil lo e sz,trivial⟩
theorem uH.congr (h:uH lo e sz D w es v) (hs:∀ b,D b→D' b) (ha:Agree D w w') (hb:∀ b,v.ownBlock=some b→w'.heap[b]? = w.heap[b]?):uH lo e sz D' w' es v:=by
 obtain ⟨xs,h1,h2⟩:=h
 exact ⟨xs,jD h1 hb,REs.mono hs ha sz es _ _ h2⟩
theorem uH.rd (h:uH lo e sz D w es v) (hs:∀ b,D b→D' b) (hb:∀ b,v.ownBlock=some b→D' b):RD D' w (.sl sz es) v:=by
 obtain ⟨xs,⟨h1,h2⟩,h3⟩:=h
 have h3':=REs.mono hs (fun _ _=>rfl:Agree D w w) sz es _ _ h3
 simp only [RD]
 rcases h2 with ⟨rfl,h2⟩ | ⟨g,cap,cur,rfl,q2,q3,q4,q5,q6,q7⟩
 ·exact .inl ⟨⟨_,rfl⟩,List.length_eq_zero_iff.1 h2⟩
 ·refine .inr ⟨g,0,cap,cur,e,(0,0),rfl,q4,hb g rfl,q3,REs.congr es 0 0 (fun j hj=>?_) h3'⟩
  simp only [Nat.zero_add]
  rw [← q7,List.getElem?_take_of_lt hj,Array.getElem?_toList]
theorem uH.lt (h:uH lo e sz D w es v):∀ b,v.ownBlock=some b→lo≤b∧b < w.heap.size:=h.elim fun _ h=>h.1.lt
theorem REs.aM7 {S:Nat→Prop} {g:Nat→Option Value} {x:List Dat}:∀ (es:List (List Dat)) (o:Nat),REs S w sz es g o→x.length=sz→RCs S w x g (o+es.length * sz)→REs S w sz (es++[x]) g o
 | [],o,_,hx,h=>by
  simp only [List.nil_append,REs,and_true]
  exact ⟨hx,by simpa using h⟩
 | y :: es,o,h,hx,hr=>by
  simp only [List.cons_append,REs] at h ⊢
  refine ⟨h.1,h.2.1,REs.aM7 es (o+sz) h.2.2 hx ?_⟩
  have:o+(y :: es).length * sz=o+sz+es.length * sz:=by simp [Nat.add_mul]; omega
  rw [← this]
  exact hr
theorem REs.take {S:Nat→Prop} {g:Nat→Option Value}:∀ (es:List (List Dat)) (k o:Nat),REs S w sz es g o→REs S w sz (es.take k) g o
 | [],k,o,h=>by simpa using h
 | y :: es,0,o,h=>trivial
 | y :: es,k+1,o,h=>by
  simp only [List.take_succ_cons,REs] at h ⊢
  exact ⟨h.1,h.2.1,REs.take es k (o+sz) h.2.2⟩
theorem REs.set {S:Nat→Prop} {g:Nat→Option Value} {x:List Dat} (hx:x.length=sz):∀ (es:List (List Dat)) (k o:Nat),REs S w sz es g o→(RCs S w x g (o+k * sz))→REs S w sz (es.set k x) g o
 | [],k,o,h,_=>by simpa using h
 | y :: es,0,o,h,hr=>by
  simp only [List.set_cons_zero,REs] at h ⊢
  exact ⟨hx,by simpa using hr,h.2.2⟩
 | y :: es,k+1,o,h,hr=>by
  simp only [List.set_cons_succ,REs] at h ⊢
  refine ⟨h.1,h.2.1,REs.set hx es k (o+sz) h.2.2 ?_⟩
  have:o+(k+1) * sz=o+sz+k * sz:=by rw [Nat.add_mul]; omega
  rw [← this]
  exact hr
/-- One element is appended. -/
theorem uH.push {P:Program} {t ty:TypeId} {i:TypeInfo} {z:Value} {bytes:Nat} (h:uH lo e sz D w es v) (ht:P.underlying t=some (.slice e)) (hi:P.info? e=some i) (hz:i.zero=some z)
  (hsize:i.size=sz) (hby:i.bytes=bytes) (hzs:z.cells.size=sz) (hsz:0 < sz) (a:Addr) (c:Nat) (news:List Value) {x:List Dat} (hx:x.length=sz) (hl:news.length=sz) (hnews:∀ j u,news[j]? = some u→w.cell? (a.add j)=some u) (h1:∀ u∈news,u.oneCell'=true)
  (hr:RCs D w x (fun j=>news[j]?) 0) (h63:es.length+1≤maxLen) (hbytes:(es.length+1) * bytes≤140737488355328) (hlo:lo≤w.heap.size) (hD:∀ b,D b→b < w.heap.size) (hno:∀ b,v.ownBlock=some b→¬ D b) :
  ∃ v' w',(Builtin.append_ #[t,t] ty #[v,.slice (some a) 1 c]).run P w=.ok v' w'∧uH lo e sz D w' (es++[x]) v'∧w.grownBy w' v.ownBlock∧(v'.ownBlock=v.ownBlock∨v'.ownBlock=some w.heap.size):=by
 obtain ⟨xs,o1,o2⟩:=h
 obtain ⟨v',w',r1,r2,r3,r4,r5⟩:=run_append_own_at (P:=P) (w:=w) lo t ty e i z sz bytes ht hi hz hsize hby hzs hsz v es.length xs o1 a 1 c news (by rw [hl,Nat.one_mul]) hnews h1 h63 hbytes hlo
 have hag:Agree D w w':=fun b hb=>r3.block b (hD b hb) fun hq=>hno b hq.symm hb
 have hxl:xs.length=es.length * sz:=o1.1
 refine ⟨v',w',r1,⟨xs++news,by rw [List.length_append]; exact r2,?_⟩,r3,r5⟩
 refine REs.aM7 es 0 (REs.congr es 0 0 (fun j hj=>?_) (REs.mono (fun _ h=>h) hag sz es _ _ o2)) hx (RCs.congr x 0 _ (fun j hj=>?_) (RCs.mono (fun _ h=>h) hag x _ _ hr))
 ·simp only [Nat.zero_add]
  rw [List.getElem?_append_left (by omega)]
 ·simp only [Nat.zero_add]
  rw [List.getElem?_append_right (by omega),show es.length * sz+j - xs.length=j by omega]
end
end Go.Vm.ObjR
