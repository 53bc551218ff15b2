/-
  archive: the text of a piece,in both texts.
-/
import Derived.Test.YtflaiaeofndgmaaGreatDoorArLb
namespace Go.Vm.ArzG.L
theorem ungS_len {g b:List UInt8} (h1:1≤g.length) (h5:g.length≤5) (h:ungS g=.inl b):2≤g.length∧b.length+1=g.length:=by
 unfold ungS at h
 split at h
 ·cases h
 split at h
 ·cases h
 split at h
 ·cases h
 split at h
 ·simp only [Sum.inl.injEq] at h
  subst h
  have:¬ g.length=1:=by assumption
  refine ⟨by omega,?_⟩
  rw [List.length_take]
  show min (g.length - 1) 4+1=_
  omega
 ·cases h
theorem txt_low:∀ (k:Nat) (xs acc l:List UInt8),txt k xs acc=.inl l→4 * xs.length+5 * acc.length≤5 * l.length+3
 | k,[],acc,l,h=>by
  have:txt k [] acc=.inl acc:=by cases k <;> rfl
  rw [this] at h
  cases h
  simp
 | 0,c :: r,acc,l,h=>by rw [txt] at h; cases h
 | k+1,c :: r,acc,l,h=>by
  rw [txt] at h
  split at h
  ·split at h
   ·cases h
   ·have:=txt_low k _ _ l h
    simp at this ⊢
    omega
  ·split at h
   ·cases h
   ·rename_i b hb
    have hg:((c :: r).take 5).length=min 5 (r.length+1):=by rw [List.length_take]; rfl
    obtain ⟨h2,h3⟩:=ungS_len (by omega) (by omega) hb
    split at h
    ·cases h
    ·have:=txt_low k _ _ l h
     simp only [List.length_drop,List.length_append,List.length_cons] at this ⊢
     omega
theorem textDecode_eq {F:Nat} (z:S_filter_copies) (s:List UInt8) (hs:s.length≤131072) (hF:200000≤F):filter_text_decode F z s=some (fin2 (txt s.length s [])):=by
 unfold filter_text_decode
 rw [text_loop (by omega) s.length s [] F hs (Nat.le_refl _) (by omega) (by simp)]
 cases h:txt s.length s [] with
 | inr e=>rfl
 | inl l =>
  have:=txt_len _ _ _ _ (by simp) h
  simp only [outS,callE_go]
  rw [chk_pos (by omega)]
  rfl
theorem check4 (n:Nat):filter_Check (n+2) [⟨4,0⟩]=some 0:=by rfl
theorem decode4_L0 {F:Nat} (n:Nat) (s:List UInt8) (r:List UInt8 ⊕ Int) (h:filter_text_decode F ⟨⟩ s=some (fin2 r)) (he:∀ e,r=.inr e→(e != 0)=true):filter_Decode_L0 F [⟨4,0⟩] (n+2) s 0=some (outS r):=by
 rw [filter_Decode_L0,show decide ((0:Int) ≥ 0)=true from rfl,cond_true,chk_pos ⟨by decide,by decide⟩]
 have hc:filter_codingOf F ((([⟨4,0⟩]:List S_FilterStep)).getD (0:Int).toNat (S_FilterStep.mk 0 0))=some (I_filter_coding.k_text ⟨⟩):=rfl
 rw [hc,call_some]
 show call (filter_text_decode F ⟨⟩ s) _=_
 rw [h,call_some]
 cases r with
 | inr e =>
  simp only [fin2]
  rw [he e rfl]
  rfl
 | inl l =>
  simp only [fin2,bne_self_eq_false,cond_false]
  rfl
theorem unletter_eq {F:Nat} (s:List UInt8) (hs:s.length≤2200000) (hF:2200100≤F):ref3_unletter F s=some (fin2 (txt s.length s [])):=by
 unfold ref3_unletter
 rw [show ref3_unletter_L0 F s F [] 0=_ from unl_loop s hs (by omega) s.length s [] 0 F rfl (by simp) (Nat.le_refl _) (by omega) (by simp)]
 cases h:txt s.length s [] <;> rfl
/-- What a piece's text stands for; none: it is not counted. -/
def pieceOf (s:List UInt8):Option (List UInt8):=match txt s.length s [] with
 | .inl l=>if l.length≤16384 then some l else none
 | .inr _=>none
theorem decode_eq {F:Nat} (s:List UInt8) (hF:200000≤F):∃ te,filter_Decode F [⟨4,0⟩] s=some te∧(∀ l,pieceOf s=some l→te=(l,0))∧(pieceOf s=none→te.2≠0):=by
 obtain ⟨m,rfl⟩:∃ m,F=m+2:=⟨F - 2,by omega⟩
 unfold filter_Decode pieceOf
 rw [check4,call_some,show ((0:Int) != 0)=false from rfl,cond_false]
 by_cases hs:65536 < s.length
 ·refine ⟨([],2),by rw [decide_eq_true (by omega)]; rfl,?_⟩
  cases h:txt s.length s [] with
  | inr e=>exact ⟨(fun l hl=>by cases hl),fun _=>by decide⟩
  | inl l =>
   have:=txt_low _ _ _ _ h
   have hl:¬ l.length≤16384:=by simp at this; omega
   simp only [if_neg hl]
   exact ⟨(fun l hl=>by cases hl),fun _=>by decide⟩
 ·have ht:=textDecode_eq (F:=m+2) ⟨⟩ s (by omega) hF
  have hd:=decode4_L0 (F:=m+2) m s _ ht (fun e he=>txt_err _ _ _ _ he)
  rw [decide_eq_false (by omega),cond_false,show IntKind.i64.wrap ((([⟨4,0⟩]:List S_FilterStep).length:Int) - 1)=0 from by kernel_rfl,hd]
  cases h:txt s.length s [] with
  | inr e =>
   refine ⟨([],e),rfl,(fun l hl=>by cases hl),fun _=>?_⟩
   have:=txt_err _ _ _ _ h
   simpa using this
  | inl l =>
   simp only [outS,callE_go]
   by_cases hl:l.length≤16384
   ·refine ⟨(l,0),?_,(fun l' hl'=>?_),fun hn=>?_⟩
    ·rw [decide_eq_false (by omega),cond_false]
     unfold strings_Clone
     rw [chk_pos (by omega),call_some]
    ·rw [if_pos hl] at hl'
     cases hl'
     rfl
    ·rw [if_pos hl] at hn
     cases hn
   ·refine ⟨([],2),by rw [decide_eq_true (by omega)]; rfl,(fun l' hl'=>?_),fun _=>by decide⟩
    rw [if_neg hl] at hl'
    cases hl'
theorem unletter_piece {F:Nat} (s:List UInt8) (hs:s.length≤2200000) (hF:2200100≤F):∃ u,ref3_unletter F s=some u∧(∀ l,pieceOf s=some l→u=(l,0)∧l.length≤16384)∧(pieceOf s=none→u.2≠0∨16384 < u.1.length):=by
 refine ⟨_,unletter_eq s hs hF,?_⟩
 unfold pieceOf
 cases h:txt s.length s [] with
 | inr e =>
  refine ⟨(fun l hl=>by cases hl),fun _=>.inl ?_⟩
  have:=txt_err _ _ _ _ h
  simpa [fin2] using this
 | inl l =>
  by_cases hl:l.length≤16384
  ·simp only [if_pos hl]
   exact ⟨(fun l' hl'=>by cases hl'; exact ⟨rfl,hl⟩),fun hn=>by cases hn⟩
  ·simp only [if_neg hl]
   exact ⟨(fun l' hl'=>by cases hl'),fun _=>.inr (by simp only [fin2]; omega)⟩
end Go.Vm.ArzG.L
