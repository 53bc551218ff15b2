import Derived.Test.YtfiggijjdmbafaaDoorProg
import Derived.Test.YtfiggijjdmbafaaDoorVmC
import Derived.WalkKit
import Derived.Shelf.RegionOpenPlain
import Derived.Laws.Externs
import Derived.Test.YtfiggijjdmbafaaDoorMrgS
import Derived.Test.YtfiggijjdmbafaaDoorVmD
import Derived.Laws.Runes
import Derived.Laws.RangeString
import Derived.Laws.RangeAny
import Derived.Scope
import Derived.Lib.OthersKept
import Derived.Deep.LoopGhost
import Derived.Deep.RegionWith
import Derived.TacticsInMore
import Derived.Lib.IndexAny
namespace Go.Vm.MrgG
open Go.Proofs Go.RowKit
set_option maxHeartbeats 1000000 in
set_option maxRecDepth 100000 in
theorem cc_used (b off:Nat) (w:World) (h0:w.cell? ⟨b,off,none⟩=some (.pointer (some ⟨b,off,none⟩))) :
    Calls Tryd.prog 41 #[.pointer (some ⟨b,off,none⟩)] w fun e w'=>e=.returned (.tuple #[])∧w'=w:=by
  have hp:Tryd.prog.underlying 45=some (.pointer 48):=Tryd.underlying45
  obtain ⟨j,hj,_⟩:∃ j,Tryd.prog.info? 48=some j∧j.size≠0:=⟨_,rfl,by decide⟩
  go_enter Tryd.func41,Tryd.ntmps41
  go_wp2
  rw [Lib.run_neq_ptr_same w _ hp hj]
  go_wp2
  go_end0
  exact ⟨rfl,rfl⟩
set_option maxHeartbeats 1000000 in
set_option maxRecDepth 100000 in
theorem cc_fresh (b off E n:Nat) (w:World) (h0:w.cell? ⟨b,off,none⟩=some (.pointer none)) (hsh:w.shape? b=some (E,n)) (hoff:off < n) (hlies:liesAt Tryd.prog Tryd.prog.depth E (n / Tryd.prog.cellsOf E) off 48 1=true) (hfz:w.frozen? ⟨b,off,none⟩=false) :
    Calls Tryd.prog 41 #[.pointer (some ⟨b,off,none⟩)] w fun e w'=>e=.returned (.tuple #[])∧w'=w.setCell ⟨b,off,none⟩ (.pointer (some ⟨b,off,none⟩)):=by
  have hp:Tryd.prog.underlying 45=some (.pointer 48):=Tryd.underlying45
  have hu:Tryd.prog.underlying 86=some .unsafePointer:=Tryd.underlying86
  obtain ⟨j,hj,hjs⟩:∃ j,Tryd.prog.info? 48=some j∧j.size≠0:=⟨_,rfl,by decide⟩
  go_enter Tryd.func41,Tryd.ntmps41
  go_wp2
  rw [Lib.run_to_unsafe w ⟨b,off,none⟩ hp hu hj hjs hsh hoff]
  simp only [Result.andThen]
  rw [Oper.upon_value]
  go_wp2
  rw [run_callFunc_extern Tryd.func50 (by kernel_rfl) (by kernel_rfl) (by kernel_rfl) (e:=Extern.AbiNoEscape.same) (by kernel_rfl)]
  rw [Lib.run_noEscape]
  simp only [Result.andThen]
  rw [Oper.upon_value]
  go_wp2
  rw [Lib.run_from_unsafe w ⟨b,off,none⟩ hu hp hj hsh hlies]
  simp only [Result.andThen]
  rw [Oper.upon_value]
  go_wp2
  go_end0
  exact ⟨rfl,rfl⟩
theorem b_copyCheck {off E:Nat} {cs:List AV} (hc:cs[off]? = some (.slf off E)) (hlies:liesAt Tryd.prog Tryd.prog.depth E (cs.length / Tryd.prog.cellsOf E) off 48 1=true) (hb:(AV.box cs).backOk=true):ACall Tryd.prog 41 [.bp virtBase off] [.box cs] (.tup []) [.box cs] :=
  ACall.copyCheck (tb:=48) ⟨_,Tryd.func41,by kernel_rfl,by kernel_rfl⟩ cc_used cc_fresh hc hlies hb
set_option maxHeartbeats 1000000 in
set_option maxRecDepth 100000 in
theorem bs_walk (b off n c:Nat) (q p:Option Addr) (s:ByteArray) (w w1 w2:World) (c1:w.drew.cell? ⟨b,off+1,none⟩=some (.slice q n c)) (c2:w1.cell? ⟨b,off+1,none⟩=some (.slice q n c))
    (hSD:(Builtin.unsafeSliceData_ #[46] 63 #[.slice q n c]).run Tryd.prog w.drew=.ok (.pointer p) w1) (hUS:(Builtin.unsafeString_ #[63,3] 9 #[.pointer p,.int .i64 n]).run Tryd.prog w1=.ok (.string s) w2) :
    Calls Tryd.prog 21 #[.pointer (some ⟨b,off,none⟩)] w fun e w'=>e=.returned (.string s)∧w'=w2:=by
  have mixed:Tryd.prog.follows .mixedOrders=true:=by kernel_rfl
  go_enter Tryd.func21,Tryd.ntmps21
  go_wp2
  go_region
  all_goals (go_wp2; go_ret; exact ⟨rfl,rfl⟩)
theorem b_String {off:Nat} {cs:List AV} {l:List UInt8} (hl63:l.length≤9223372036854775807) (hc:cs[off+1]? = some (.own 5 1 (l.map cU))) (hb:(AV.box (cs.set (off+1) .junk)).backOk=true):ACall Tryd.prog 21 [.bp virtBase off] [.box cs] (.d (.str l)) [.box (cs.set (off+1) .junk)] :=
  ACall.bString ⟨_,Tryd.func21,by kernel_rfl,by kernel_rfl⟩ Tryd.underlying63 (by kernel_rfl) (by decide) bs_walk hl63 hc hb
theorem b_ReplaceAll {gm0:Int} {l o n:List UInt8} (h:l.length < 4294967281∧1≤o.length∧l.length+Lib.count l o * n.length≤140737488355328):ACall Tryd.prog 45 [.d (.str l),.d (.str o),.d (.str n)] [.glo 0 ([gm0].flatMap (cI .i64))] (.d (.str (Lib.replaceAll l o n))) [.glo 0 ([gm0].flatMap (cI .i64))] :=
  ACall.ofBelowG ⟨_,Tryd.func45,by kernel_rfl,by kernel_rfl⟩ (us:=[strOf l,strOf o,strOf n]) (u:=strOf (Lib.replaceAll l o n)) rfl rfl rfl fun w S hg=>by
    obtain ⟨arr,E,fz,_,h2,_,⟨u,hu,hr⟩,_⟩:=hg
    have hc:w.cell? ⟨0,0,none⟩=some (.int .i64 gm0):=by
      have e:u=.int .i64 gm0:=hr.1
      simp only [World.cell?,h2,Option.isSome_none,Bool.false_eq_true,if_false]
      rw [← e]; exact hu
    exact Tryd.strings_ReplaceAll ⟨l.toArray⟩ ⟨o.toArray⟩ ⟨n.toArray⟩ gm0 w (by simpa [ByteArray.size] using h.1) hc (by simpa [ByteArray.size] using h.2.1) (by simpa [ByteArray.size,Lib.countB] using h.2.2)
section
open Go.Shelf Go.Lib
set_option maxHeartbeats 4000000 in
set_option maxRecDepth 1000000 in
theorem ir_bad (s:ByteArray) (r:Int) (w:World) (h1:128≤r) (h2:r≠65533) (hv:Lib.validRune r=false) :
    Calls Tryd.prog 35 #[.string s,.int .i32 r] w fun e w'=>e=.returned (.int .i64 (-1))∧w'=w:=by
  have hr1:¬ r < 128:=by omega
  have hr3:(r == 65533)=false:=by simpa using h2
  have e47:∀ args w,(callFunc 47 args).run Tryd.prog w=.ok (.enter 47 args) w:=enters_of Tryd.func47 (by kernel_rfl) rfl
  go_enter Tryd.func35,Tryd.ntmps35
  go_wp2_with (go_at_fn 47; refine (Tryd.utf8_ValidRune _ _).mono ?_; rintro e w' ⟨rfl,hw⟩; rw [hw,hv])
  go_ret
  exact ⟨rfl,rfl⟩
theorem indexByte_absent {c:UInt8}:∀ l:List UInt8,(∀ b∈l,b≠c)→Lib.indexByte l c = -1
  | [],_=>rfl
  | b :: l,h=>by
    have hb:=h b (by simp)
    rw [Lib.indexByte,indexByte_absent l fun x hx=>h x (by simp [hx])]
    simp [hb]
set_option maxHeartbeats 4000000 in
set_option maxRecDepth 1000000 in
theorem ir_ok (s:ByteArray) (r:Int) (w:World) (h1:128≤r) (h2:r≠65533) (hv:Lib.validRune r=true) (has:∀ b∈s.data.toList,b.toNat < 128) (hs:s.size≤1000) :
    Calls Tryd.prog 35 #[.string s,.int .i32 r] w fun e w'=>e=.returned (.int .i64 (-1))∧∃ q,w'=w.drewN q:=by
  have hr1:¬ r < 128:=by omega
  have hr3:(r == 65533)=false:=by simpa using h2
  have hvu:Utf8.valid r=true:=by
    have h57:(57344≤r)=(57343 < r):=by apply propext; omega
    rw [Utf8.valid,← hv]; simp [Lib.validRune,h57]
  obtain ⟨g1,g2,g3⟩:=encode_facts r hvu h1
  have hcv:∀ W,(convert 21 9 (.int .i32 r)).run Tryd.prog W=.ok (.string (Utf8.encode r)) W:=fun W=>run_convert_int_string W 21 9 .i32 r (by rw [Tryd.underlying21]; rfl) Tryd.underlying9
  obtain ⟨E,hE⟩:∃ E,Utf8.encode r=E:=⟨_,rfl⟩
  rw [hE] at g1 g2 g3 hcv
  obtain ⟨k,hk⟩:∃ k:Nat,E.size=k+1:=⟨E.size - 1,by omega⟩
  have mixed:Tryd.prog.follows .mixedOrders=true:=by kernel_rfl
  have e46:∀ args w,(callFunc 46 args).run Tryd.prog w=.ok (.enter 46 args) w:=enters_of Tryd.func46 (by kernel_rfl) rfl
  have e47:∀ args w,(callFunc 47 args).run Tryd.prog w=.ok (.enter 47 args) w:=enters_of Tryd.func47 (by kernel_rfl) rfl
  have HA:Aside (∀ b∈s.data.toList,b.toNat < 128):=has
  have HG:Aside (∀ h:E.size - 1 < E.size,128≤(E[E.size - 1]'h).toNat):=g3
  have hw1:IntKind.i64.wrap ((E.size:Int) - 1)=(k:Int):=by rw [hk,show ((k+1:Nat):Int) - 1=(k:Int) by omega]; exact wrap_small _ (by omega) (by omega)
  clear has g3 hvu hE
  go_enter Tryd.func35,Tryd.ntmps35
  go_wp2_with (go_at_fn 47; refine (Tryd.utf8_ValidRune _ _).mono ?_; rintro e w' ⟨rfl,hw⟩; rw [hw,hv])
  refine wp_scope_straight ?_
  go_wp2
  go_loopg [9] 1 (fun g s9 wx=>s9=.int .i64 (k:Int)∧wx=w∧g=1)
  case atStart=>exact ⟨rfl,rfl,rfl⟩
  case round =>
    obtain ⟨rfl,rfl,rfl⟩:=hrel
    by_cases hlt:k < s.size
    · have hltz:(k:Int) < (s.size:Int):=by omega
      obtain ⟨x,hx⟩:∃ x:UInt8,s[k]'hlt=x:=⟨_,rfl⟩
      obtain ⟨y,hy⟩:∃ y:UInt8,E[k]'(by omega)=y:=⟨_,rfl⟩
      have hx1:x.toNat < 128:=HA.out x (by rw [← hx]; exact Array.getElem_mem_toList (xs:=s.data) hlt)
      have hy1:128≤y.toNat:=by
        have:=HG.out (by omega)
        have e:E.size - 1=k:=by omega
        simp only [e] at this
        rw [← hy]; exact this
      have hxy:((x.toNat:Int) == (y.toNat:Int))=false:=by simp; omega
      have hyb:((y.toNat:Int)).toNat.toUInt8=y:=by simp
      have hib:∀ a e,Lib.indexByte (s.extract a e).data.toList y = -1:=fun a e=>indexByte_absent _ fun b hb hby=>by
        have:=HA.out b (mem_extract hb)
        rw [hby] at this
        omega
      go_wp2
      refine wp_scope_straight ?_
      go_wp2
      go_region
      go_wp2
      rw [show (((x.toNat:Int) != (y.toNat:Int))=true) from by simp [bne,hxy]] at *
      go_wp2
      have hB:∀ a e W,Calls Tryd.prog 46 #[.string (s.extract a e),.int .u8 (y.toNat:Int)] W fun e w'=>e=.returned (.int .i64 (-1))∧w'=W:=fun a e W=>by
        have:=Tryd.strings_IndexByte (s.extract a e) (y.toNat:Int) W
        rw [hyb,hib] at this
        exact this
      clear hib hyb
      have hwk:IntKind.i64.wrap ((k:Int)+1)=((k+1:Nat):Int):=by rw [wrap_small _ (by omega) (by omega)]; rfl
      have hle0:(0:Int)≤((k+1:Nat):Int):=by omega
      have hle1:((k+1:Nat):Int)≤(s.size:Int):=by omega
      have hle2:¬ (((k+1:Nat):Int) < 0):=by omega
      have hle3:¬ ((s.size:Int) < ((k+1:Nat):Int)):=by omega
      go_region_with (first | (go_at_call 46; refine (hB _ _ _).mono ?_; rintro e w' ⟨rfl,hw⟩; rw [hw]))
      all_goals go_wp2
      all_goals simp only [Exit.noGoto,Exit.inBlock,Exit.then]
      all_goals (go_ret; exact ⟨rfl,2,rfl⟩)
    · have hltz:¬ (k:Int) < (s.size:Int):=by omega
      go_wp2
      go_ret
      exact ⟨rfl,0,rfl⟩
set_option maxHeartbeats 4000000 in
set_option maxRecDepth 1000000 in
theorem ir_fffd (s:ByteArray) (w:World) (has:∀ b∈s.data.toList,b.toNat < 128) :
    Calls Tryd.prog 35 #[.string s,.int .i32 65533] w fun e w'=>e=.returned (.int .i64 (-1))∧Below w.heap.size w w':=by
  have HA:Aside (∀ b∈s.data.toList,b.toNat < 128):=has
  clear has
  go_enter Tryd.func35,Tryd.ntmps35
  go_wp2
  go_loopg [] s.size (fun gf wx=>∃ pos:Nat,wx.heap[w.heap.size]? = some (.stringIter s pos)∧Below w.heap.size w wx∧s.size≤pos+gf)
  case atStart=>exact ⟨0,World.iter_heap w s 0,(Below.refl _ w).alloc (Nat.le_refl _) _,by omega⟩
  case round =>
    obtain ⟨pos,hit,hbw,hfu⟩:=hrel
    by_cases hps:pos < s.size
    · obtain ⟨g',rfl⟩:∃ g',gk=g'+1:=⟨gk - 1,by omega⟩
      obtain ⟨x,hx⟩:∃ x:UInt8,s[pos]'hps=x:=⟨_,rfl⟩
      have hx1:x.toNat < 128:=HA.out x (by rw [← hx]; exact Array.getElem_mem_toList (xs:=s.data) hps)
      have hxne:((x.toNat:Int) == 65533)=false:=by simp; omega
      have hnx:=fun ty=>Lib.run_next_ascii_at (P:=Tryd.prog) wr w.heap.size s pos ty hit hps (by rw [hx]; exact hx1)
      rw [hx] at hnx
      have hit2:=Lib.iterAt_heap wr w.heap.size s pos (pos+1) hit
      have hbw2:=Lib.below_iterAt hbw (k:=w.heap.size) (Nat.le_refl _) s (pos+1)
      go_wp2
      go_roundg g'
      case measure=>omega
      case rel=>exact ⟨pos+1,hit2,hbw2,by omega⟩
    · have hnx:∀ ty,(Instr.next (.pointer (some ⟨w.heap.size,0,none⟩)) true ty).run Tryd.prog wr=_:=fun ty=>Lib.run_next_end_at wr w.heap.size s pos ty hit hps
      go_wp2
      go_ret
      exact ⟨rfl,hbw⟩
/-- strings.IndexRune,of a text of ASCII bytes,at a rune that is none. -/
theorem ir_high (s:ByteArray) (r:Int) (w:World) (h1:128≤r) (has:∀ b∈s.data.toList,b.toNat < 128) (hs:s.size≤1000) :
    Calls Tryd.prog 35 #[.string s,.int .i32 r] w fun e w'=>e=.returned (.int .i64 (-1))∧Below w.heap.size w w':=by
  by_cases h2:r=65533
  · subst h2
    exact ir_fffd s w has
  cases hv:Lib.validRune r with
  | false=>exact (ir_bad s r w h1 h2 hv).mono (by rintro e w' ⟨rfl,rfl⟩; exact ⟨rfl,Below.refl _ _⟩)
  | true=>exact (ir_ok s r w h1 h2 hv has hs).mono (by rintro e w' ⟨rfl,q,rfl⟩; exact ⟨rfl,(⟨rfl,rfl,rfl,Nat.le_refl _,fun _ _=>rfl⟩:Below _ w (w.drewN q))⟩)
theorem get_bang (s:ByteArray) (j:Nat) (h:j < s.size):s.get! j=s[j]'h:=by
  have h':j < s.data.size:=h
  show s.data[j]! = s.data[j]'h'
  exact getElem!_pos s.data j h'
/-- What a rune that is not of one byte covers: bytes from 128 on. -/
theorem decode_span (s:ByteArray) (pos:Nat) (hp:pos < s.size) (hh:128≤(s[pos]'hp).toNat):∀ j,pos≤j→j < pos+(Utf8.decode s pos).2→j < s.size∧128≤(s.get! j).toNat:=by
  have h0:(s.get! pos)=s[pos]'hp:=get_bang s pos hp
  intro j hj1 hj2
  rcases Nat.eq_or_lt_of_le hj1 with rfl | hlt
  · exact ⟨hp,by rw [h0]; exact hh⟩
  obtain ⟨d,rfl⟩:∃ d,j=pos+d:=⟨j - pos,by omega⟩
  have hd:0 < d:=by omega
  have hd2:d < (Utf8.decode s pos).2:=by omega
  have hc:∀ k,(decide (pos+k < s.size) && (s.get! (pos+k)).toNat / 64 == 2)=true→pos+k < s.size∧128≤(s.get! (pos+k)).toNat:=by
    intro k hk
    simp only [Bool.and_eq_true,decide_eq_true_eq,beq_iff_eq] at hk
    exact ⟨hk.1,by omega⟩
  unfold Utf8.decode at hd2
  simp only at hd2
  split at hd2
  · simp at hd2; omega
  split at hd2
  · rename_i h2
    simp only [Bool.and_eq_true] at h2
    split at hd2 <;> simp at hd2
    · obtain rfl:d=1:=by omega
      exact hc 1 (by simpa using h2.2)
    · omega
  split at hd2
  · rename_i h3
    simp only [Bool.and_eq_true] at h3
    split at hd2 <;> simp at hd2
    · have:d=1∨d=2:=by omega
      rcases this with rfl | rfl
      · exact hc 1 (by simpa using h3.1.2)
      · exact hc 2 (by simpa using h3.2)
    · omega
  split at hd2
  · rename_i h4
    simp only [Bool.and_eq_true] at h4
    split at hd2 <;> simp at hd2
    · have:d=1∨d=2∨d=3:=by omega
      rcases this with rfl | rfl | rfl
      · exact hc 1 (by simpa using h4.1.1.2)
      · exact hc 2 (by simpa using h4.1.2)
      · exact hc 3 (by simpa using h4.2)
    · omega
  · simp at hd2; omega
theorem noAny_span {s:ByteArray} {chars:List UInt8} (has:∀ b∈chars,b.toNat < 128) {pos:Nat} (hp:pos < s.size) (hh:128≤(s[pos]'hp).toNat) (h:Lib.NoAny s.data.toList chars pos):Lib.NoAny s.data.toList chars (pos+(Utf8.decode s pos).2):=by
  intro j b hj hb
  by_cases hjp:j < pos
  · exact h j b hjp hb
  · obtain ⟨h1,h2⟩:=decode_span s pos hp hh j (by omega) hj
    have hbj:s.get! j=b:=by
      have:s.data.toList[j]? = some (s[j]'h1):=Lib.data_getElem? s j h1
      rw [this] at hb
      simp only [Option.some.injEq] at hb
      rw [← hb]
      exact get_bang s j h1
    rw [hbj] at h2
    cases hc:chars.contains b with
    | false=>rfl
    | true =>
      have:=has b (by simpa using hc)
      omega
set_option maxHeartbeats 8000000 in
set_option maxRecDepth 1000000 in
/-- strings.IndexAny of any text of at most 8 bytes,at two or more ASCII bytes. -/
theorem ia_short (s chars:ByteArray) (w:World) (h2:2≤chars.size) (hc9:chars.size≤1000) (h8:s.size≤8) (has:∀ b∈chars.data.toList,b.toNat < 128) :
    Calls Tryd.prog 25 #[.string s,.string chars] w fun e w'=>e=.returned (.int .i64 (Lib.indexAny s.data.toList chars.data.toList))∧Below w.heap.size w w':=by
  have HA:Aside (∀ b∈chars.data.toList,b.toNat < 128):=has
  clear has
  have hemp:chars.toList.isEmpty=false:=by
    rw [Lib.toList_data]
    cases h:chars.data.toList with
    | nil=>have:=Lib.size_eq chars; rw [h,List.length_nil] at this; omega
    | cons _ _=>rfl
  have hn1:((chars.size:Int) == 1)=false:=beq_eq_false_iff_ne.2 (by omega)
  have h8z:decide ((8:Int) < (s.size:Int))=false:=decide_eq_false (by omega)
  have e35:∀ args w,(callFunc 35 args).run Tryd.prog w=.ok (.enter 35 args) w:=enters_of Tryd.func35 (by kernel_rfl) rfl
  have e36:∀ args w,(callFunc 36 args).run Tryd.prog w=.ok (.enter 36 args) w:=enters_of Tryd.func36 (by kernel_rfl) rfl
  go_enter Tryd.func25,Tryd.ntmps25
  go_wp2_with (go_at_fn 36; refine (Tryd.strings_shouldUseASCIISet _ _).mono ?_; rintro e w' ⟨rfl,hw⟩; rw [hw,h8z])
  go_loopg [9,10] s.size (fun g _ _ wx=>∃ pos:Nat,wx.heap[w.heap.size]? = some (.stringIter s pos)∧Below w.heap.size w wx∧s.size≤pos+g∧Lib.NoAny s.data.toList chars.data.toList pos)
  case atStart=>exact ⟨0,World.iter_heap w s 0,(Below.refl _ w).alloc (Nat.le_refl _) _,by omega,Lib.NoAny.zero _ _⟩
  case round =>
    obtain ⟨pos,hit,hbw,hfu,hno⟩:=hrel
    have HN:Aside (Lib.NoAny s.data.toList chars.data.toList pos):=hno
    clear hno
    by_cases hps:pos < s.size
    · obtain ⟨g',rfl⟩:∃ g',gk=g'+1:=⟨gk - 1,by omega⟩
      obtain ⟨x,hx⟩:∃ x:UInt8,s[pos]'hps=x:=⟨_,rfl⟩
      have hxl:s.data.toList[pos]? = some x:=by rw [← hx]; exact Lib.data_getElem? s pos hps
      by_cases hx1:x.toNat < 128
      · have hnx:=fun ty=>Lib.run_next_ascii_at (P:=Tryd.prog) wr w.heap.size s pos ty hit hps (by rw [hx]; exact hx1)
        rw [hx] at hnx
        have hit2:=Lib.iterAt_heap wr w.heap.size s pos (pos+1) hit
        have hbw2:=Lib.below_iterAt hbw (k:=w.heap.size) (Nat.le_refl _) s (pos+1)
        have Hx:Aside (s.data.toList[pos]? = some x):=hxl
        clear hxl hx
        have hcon:=Lib.contains_iff_indexByte chars.data.toList x
        have hback:((x.toNat:Int)).toNat.toUInt8=x:=by simp
        cases hin:chars.data.toList.contains x
        · rw [hin] at hcon
          have hlt:¬ ((0:Int)≤Lib.indexByte chars.data.toList x):=of_decide_eq_false hcon.symm
          clear hcon
          go_wp2_with (go_at_fn 35; refine (Tryd.strings_IndexRune_ascii _ _ _ (by omega) (by omega)).mono ?_; rintro e w' ⟨rfl,hw⟩; rw [hw,hback])
          go_roundg g'
          case measure=>omega
          case rel=>exact ⟨pos+1,hit2,hbw2,by omega,HN.out.succ Hx.out hin⟩
        · rw [hin] at hcon
          have hge:(0:Int)≤Lib.indexByte chars.data.toList x:=of_decide_eq_true hcon.symm
          clear hcon
          go_wp2_with (go_at_fn 35; refine (Tryd.strings_IndexRune_ascii _ _ _ (by omega) (by omega)).mono ?_; rintro e w' ⟨rfl,hw⟩; rw [hw,hback])
          go_ret
          exact ⟨by rw [Lib.indexAny_hit HN.out Hx.out hin]; rfl,hbw2⟩
      · have hhi:128≤(s[pos]'hps).toNat:=by rw [hx]; omega
        have hsp:Lib.NoAny s.data.toList chars.data.toList (pos+(Utf8.decode s pos).2):=noAny_span HA.out hps hhi HN.out
        obtain ⟨hd1,hd2⟩:=decode_high s pos hps hhi
        have hd3:=decode_le s pos
        have hnx:∀ ty,(Instr.next (.pointer (some ⟨w.heap.size,0,none⟩)) true ty).run Tryd.prog wr=_:=fun ty=>Lib.run_next_any_at wr w.heap.size s pos ty hit hps
        obtain ⟨R,hR⟩:∃ R,(Utf8.decode s pos).1=R:=⟨_,rfl⟩
        obtain ⟨K,hK⟩:∃ K,(Utf8.decode s pos).2=K:=⟨_,rfl⟩
        rw [hR,hK] at hnx
        rw [hK] at hsp hd2
        rw [hR] at hd1 hd3
        have hit2:=Lib.iterAt_heap wr w.heap.size s pos (pos+K) hit
        have hbw2:=Lib.below_iterAt hbw (k:=w.heap.size) (Nat.le_refl _) s (pos+K)
        have hlt:(w.heap.size:Nat) < (wr.iterAt w.heap.size s (pos+K)).heap.size:=(Array.getElem?_eq_some_iff.1 hit2).1
        obtain ⟨W,hWd⟩:∃ W,wr.iterAt w.heap.size s (pos+K)=W:=⟨_,rfl⟩
        rw [hWd] at hnx hit2 hbw2 hlt
        have HS:Aside (Lib.NoAny s.data.toList chars.data.toList (pos+K)):=hsp
        have cR:=ir_high chars (R:Int) W (by omega) HA.out hc9
        clear hsp hxl hx hhi hx1 hR hK
        go_wp2_with (go_at_fn 35; refine cR.mono ?_; rintro e w' ⟨rfl,hbx⟩)
        go_roundg g'
        case measure=>omega
        case rel=>exact ⟨pos+K,by rw [hbx.block _ hlt]; exact hit2,hbw2.trans (hbx.mono (by omega)),by omega,HS.out⟩
    · have hnx:∀ ty,(Instr.next (.pointer (some ⟨w.heap.size,0,none⟩)) true ty).run Tryd.prog wr=_:=fun ty=>Lib.run_next_end_at wr w.heap.size s pos ty hit hps
      have hno2:Lib.NoAny s.data.toList chars.data.toList s.data.toList.length:=fun j b hj hb=>HN.out j b (by rw [← Lib.size_eq] at hj; omega) hb
      have Hno2:Aside (Lib.NoAny s.data.toList chars.data.toList s.data.toList.length):=hno2
      clear hno2
      go_wp2
      go_ret
      exact ⟨by rw [Lib.indexAny_none Hno2.out]; rfl,hbw⟩
/-- strings.IndexAny of any text,at two or more ASCII bytes. -/
theorem ia_any (s chars:ByteArray) (w:World) (h2:2≤chars.size) (hc9:chars.size≤1000) (hs:s.size < 4294967281) (has:∀ b∈chars.data.toList,b.toNat < 128) :
    Calls Tryd.prog 25 #[.string s,.string chars] w fun e w'=>e=.returned (.int .i64 (Lib.indexAny s.data.toList chars.data.toList))∧Below w.heap.size w w':=by
  by_cases h8:s.size≤8
  · exact ia_short s chars w h2 hc9 h8 has
  · have hz:=zero_of_info (P:=Tryd.prog) (t:=74) (n:=256) (v:=.agg (Array.replicate 256 (.bool false))) (by kernel_rfl)
    refine (Tryd.strings_IndexAny_long hz.1 s chars w h2 (by omega) hs (by omega) fun j b hb=>has b (List.mem_of_getElem? hb)).mono fun e w' ⟨h1,h2⟩=>⟨h1,?_⟩
    rw [h2]
    exact ((Below.refl _ _).alloc (Nat.le_refl _) _).alloc (by simp) _
set_option maxHeartbeats 1000000 in
/-- strings.ContainsAny of any text,at two or more ASCII bytes. -/
theorem ca_any (s chars:ByteArray) (w:World) (h2:2≤chars.size) (hc9:chars.size≤1000) (hs:s.size < 4294967281) (has:∀ b∈chars.data.toList,b.toNat < 128) :
    Calls Tryd.prog 44 #[.string s,.string chars] w fun e w'=>e=.returned (.bool (Lib.containsAny s.data.toList chars.data.toList))∧Below w.heap.size w w':=by
  have c:=ia_any s chars w h2 hc9 hs has
  have e25:∀ args w,(callFunc 25 args).run Tryd.prog w=.ok (.enter 25 args) w:=enters_of Tryd.func25 (by kernel_rfl) rfl
  go_enter Tryd.func44,Tryd.ntmps44
  go_wp2_with (go_at_fn 25; refine c.mono ?_; rintro e w' ⟨rfl,hw⟩)
  go_ret
  exact ⟨rfl,hw⟩
end
theorem b_IndexAny {l c:List UInt8} (h:l.length < 4294967281) (hc:2≤c.length∧c.length≤1000∧∀ b∈c,b.toNat < 128):ACall Tryd.prog 25 [.d (.str l),.d (.str c)] [] (.d (.v (.int .i64 (Lib.indexAny l c)))) [] :=
  ACall.ofBelow ⟨_,Tryd.func25,by kernel_rfl,by kernel_rfl⟩ (us:=[strOf l,strOf c]) rfl rfl rfl fun w=>ia_any ⟨l.toArray⟩ ⟨c.toArray⟩ w (by simpa [ByteArray.size] using hc.1) (by simpa [ByteArray.size] using hc.2.1) (by simpa [ByteArray.size] using h) (by simpa using hc.2.2)
theorem b_ContainsAny {l c:List UInt8} (h:l.length < 4294967281) (hc:2≤c.length∧c.length≤1000∧∀ b∈c,b.toNat < 128):ACall Tryd.prog 44 [.d (.str l),.d (.str c)] [] (.d (.v (.bool (Lib.containsAny l c)))) [] :=
  ACall.ofBelow ⟨_,Tryd.func44,by kernel_rfl,by kernel_rfl⟩ (us:=[strOf l,strOf c]) rfl rfl rfl fun w=>ca_any ⟨l.toArray⟩ ⟨c.toArray⟩ w (by simpa [ByteArray.size] using hc.1) (by simpa [ByteArray.size] using hc.2.1) (by simpa [ByteArray.size] using h) (by simpa using hc.2.2)
theorem b_Join {xs:List (List UInt8)} {c:List UInt8} (h:xs.length≤140737488355328∧(Lib.join xs c).length≤140737488355328):ACall Tryd.prog 33 [.d (.sl 1 (xs.map cS)),.d (.str c)] [] (.d (.str (Lib.join xs c))) [] :=
  ACall.ofReads ⟨_,Tryd.func33,by kernel_rfl,by kernel_rfl⟩ (u:=strOf (Lib.join xs c)) rfl rfl rfl fun w S us hl hS hr=>by
    match us,hl with
    | [u0,u1],_ =>
    have h1:u1=strOf c:=hr 1 _ _ rfl rfl
    subst h1
    rcases rd_strs (hr 0 _ _ rfl rfl) with ⟨q,rfl,rfl⟩ | ⟨b,off,cp,rfl,hcp,hSb,hcells⟩
    · exact (Tryd.strings_Join_none q 0 ⟨c.toArray⟩ w).mono (by rintro e w' ⟨rfl,rfl⟩; exact ⟨rfl,Below.refl _ _⟩)
    · have hm:(xs.map fun l=>(⟨l.toArray⟩:ByteArray)).map (·.data.toList)=xs:=by rw [List.map_map]; exact List.map_id' xs
      have:=Tryd.strings_Join b off cp (xs.map fun l=>⟨l.toArray⟩) ⟨c.toArray⟩ w (fun j x hx=>by
        rw [List.getElem?_map,Option.map_eq_some_iff] at hx
        obtain ⟨l,hl,rfl⟩:=hx
        exact hcells j l hl) (hS b hSb) (by simpa using h.1) (by simpa using hcp) (by rw [hm]; exact h.2)
      rw [hm,List.length_map] at this
      exact this
end Go.Vm.MrgG
