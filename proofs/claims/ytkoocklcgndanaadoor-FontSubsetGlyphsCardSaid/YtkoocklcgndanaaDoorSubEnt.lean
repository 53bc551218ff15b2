/-
  Subset returns a font with exactly the glyphs that the codes need,and their former numbers: the law returns true,and its arguments read as before.
-/
import Derived.Test.YtkoocklcgndanaaDoorVmD
import Derived.Test.YtkoocklcgndanaaDoorVmC
import Derived.Stop.Joined
import Derived.Test.YtkoocklcgndanaaDoorSubMi
import Derived.Test.YtkoocklcgndanaaDoorSubPc
import Derived.Test.YtkoocklcgndanaaDoorRows
import Derived.Test.YtkoocklcgndanaaDoorTie
import Derived.Test.YtkoocklcgndanaaDoorCards
namespace Go.Proofs.YtkoocklcgndanaaDoor
open Go.ChangeShapes Go.WideShapes Go.ChangeAt Go.WideMaps Go.WideElems Go.RowKit Go.Vm Go.Vm.SubG
theorem own:ownKnob Tryd.prog.godebug=none:=by kernel_rfl
def Q50 (x:S_FontPoint):Prop:=(Lit.int .i64 x.f0).wf=true∧(Lit.int .i64 x.f1).wf=true∧True∧True
theorem opens_50:Opens Tryd.prog 50 cS_FontPoint Q50 :=
 (opens_struct (t:=50) (N:=3) Tryd.underlying50 (by kernel_rfl) (opensN_cons (sz:=1) rfl (by kernel_rfl) (by decide) (opens_int (k:=.i64) (by kernel_rfl))
  (opensN_cons (sz:=1) rfl (by kernel_rfl) (by decide) (opens_int (k:=.i64) (by kernel_rfl))
  (opensN_cons (sz:=1) rfl (by kernel_rfl) (by decide) (opens_bool (by kernel_rfl))
  (opensN_nil _ _))))).map
  (fun x=>(⟨x.1,x.2.1,x.2.2.1⟩:S_FontPoint)) (fun x=>by simp [cS_FontPoint]) (fun _ h=>h)
def Q57 (x:S_FontPart):Prop:=(Lit.int .i64 x.f0).wf=true∧(Lit.int .i64 x.f1).wf=true∧(Lit.int .i64 x.f2).wf=true∧True
theorem opens_57:Opens Tryd.prog 57 cS_FontPart Q57 :=
 (opens_struct (t:=57) (N:=3) Tryd.underlying57 (by kernel_rfl) (opensN_cons (sz:=1) rfl (by kernel_rfl) (by decide) (opens_int (k:=.i64) (by kernel_rfl))
  (opensN_cons (sz:=1) rfl (by kernel_rfl) (by decide) (opens_int (k:=.i64) (by kernel_rfl))
  (opensN_cons (sz:=1) rfl (by kernel_rfl) (by decide) (opens_int (k:=.i64) (by kernel_rfl))
  (opensN_nil _ _))))).map
  (fun x=>(⟨x.1,x.2.1,x.2.2.1⟩:S_FontPart)) (fun x=>by simp [cS_FontPart]) (fun _ h=>h)
def Q55 (x:S_FontGlyph):Prop:=(Lit.int .i64 x.f0).wf=true∧(x.f1.length≤maxLen∧∀ a∈x.f1,(a.length≤maxLen∧∀ a1∈a,Q50 a1))∧(x.f2.length≤maxLen∧∀ a∈x.f2,Q57 a)∧True
theorem opens_55:Opens Tryd.prog 55 cS_FontGlyph Q55 :=
 (opens_struct (t:=55) (N:=3) Tryd.underlying55 (by kernel_rfl) (opensN_cons (sz:=1) rfl (by kernel_rfl) (by decide) (opens_int (k:=.i64) (by kernel_rfl))
  (opensN_cons (sz:=1) rfl (by kernel_rfl) (by decide) (opens_slice (e:=48) (sz:=1) (by kernel_rfl) (by kernel_rfl) (by decide) (opens_slice (e:=50) (sz:=3) (by kernel_rfl) (by kernel_rfl) (by decide) opens_50))
  (opensN_cons (sz:=1) rfl (by kernel_rfl) (by decide) (opens_slice (e:=57) (sz:=3) (by kernel_rfl) (by kernel_rfl) (by decide) opens_57)
  (opensN_nil _ _))))).map
  (fun x=>(⟨x.1,x.2.1,x.2.2.1⟩:S_FontGlyph)) (fun x=>by simp [cS_FontGlyph]) (fun _ h=>h)
def Q65 (x:S_FontRange):Prop:=(Lit.int .i64 x.f0).wf=true∧(Lit.int .i64 x.f1).wf=true∧(Lit.int .i64 x.f2).wf=true∧True
theorem opens_65:Opens Tryd.prog 65 cS_FontRange Q65 :=
 (opens_struct (t:=65) (N:=3) Tryd.underlying65 (by kernel_rfl) (opensN_cons (sz:=1) rfl (by kernel_rfl) (by decide) (opens_int (k:=.i64) (by kernel_rfl))
  (opensN_cons (sz:=1) rfl (by kernel_rfl) (by decide) (opens_int (k:=.i64) (by kernel_rfl))
  (opensN_cons (sz:=1) rfl (by kernel_rfl) (by decide) (opens_int (k:=.i64) (by kernel_rfl))
  (opensN_nil _ _))))).map
  (fun x=>(⟨x.1,x.2.1,x.2.2.1⟩:S_FontRange)) (fun x=>by simp [cS_FontRange]) (fun _ h=>h)
def Q67 (x:S_FontPair):Prop:=(Lit.int .i64 x.f0).wf=true∧(Lit.int .i64 x.f1).wf=true∧(Lit.int .i64 x.f2).wf=true∧True
theorem opens_67:Opens Tryd.prog 67 cS_FontPair Q67 :=
 (opens_struct (t:=67) (N:=3) Tryd.underlying67 (by kernel_rfl) (opensN_cons (sz:=1) rfl (by kernel_rfl) (by decide) (opens_int (k:=.i64) (by kernel_rfl))
  (opensN_cons (sz:=1) rfl (by kernel_rfl) (by decide) (opens_int (k:=.i64) (by kernel_rfl))
  (opensN_cons (sz:=1) rfl (by kernel_rfl) (by decide) (opens_int (k:=.i64) (by kernel_rfl))
  (opensN_nil _ _))))).map
  (fun x=>(⟨x.1,x.2.1,x.2.2.1⟩:S_FontPair)) (fun x=>by simp [cS_FontPair]) (fun _ h=>h)
def Q26 (x:S_Font):Prop:=(Lit.int .i64 x.f0).wf=true∧(x.f1.length≤maxLen∧∀ a∈x.f1,Q55 a)∧(x.f2.length≤maxLen∧∀ a∈x.f2,Q65 a)∧(x.f3.length≤maxLen∧∀ a∈x.f3,Q67 a)∧True
theorem opens_26:Opens Tryd.prog 26 cS_Font Q26 :=
 (opens_struct (t:=26) (N:=4) Tryd.underlying26 (by kernel_rfl) (opensN_cons (sz:=1) rfl (by kernel_rfl) (by decide) (opens_int (k:=.i64) (by kernel_rfl))
  (opensN_cons (sz:=1) rfl (by kernel_rfl) (by decide) (opens_slice (e:=55) (sz:=3) (by kernel_rfl) (by kernel_rfl) (by decide) opens_55)
  (opensN_cons (sz:=1) rfl (by kernel_rfl) (by decide) (opens_slice (e:=65) (sz:=3) (by kernel_rfl) (by kernel_rfl) (by decide) opens_65)
  (opensN_cons (sz:=1) rfl (by kernel_rfl) (by decide) (opens_slice (e:=67) (sz:=3) (by kernel_rfl) (by kernel_rfl) (by decide) opens_67)
  (opensN_nil _ _)))))).map
  (fun x=>(⟨x.1,x.2.1,x.2.2.1,x.2.2.2.1⟩:S_Font)) (fun x=>by simp [cS_Font]) (fun _ h=>h)
theorem opens_args:OpensArgs Tryd.prog [26,27] (fun z:S_Font×(List Int)×Unit=>[.agg (cS_Font z.1),.d (.sl 1 (z.2.1.map (cI .i64)))]) (fun z=>Q26 z.1∧(z.2.1.length≤maxLen∧∀ a∈z.2.1,(Lit.int .i64 a).wf=true)∧True) :=
 (opensArgs_agg Tryd.underlying26 opens_26 (opensArgs_flat (x:=fun y:List Int=>.sl 1 (y.map (cI .i64))) (by kernel_rfl) (fun _=>rfl) (opens_slice (e:=3) (sz:=1) (by kernel_rfl) (by kernel_rfl) (by decide) (opens_int (k:=.i64) (by kernel_rfl))) (opensArgs_nil _)))
abbrev lay : List (String × DataW Unit) := [("printworks/filter.steps",Rows.laid_printworks_filter_steps)]
theorem door_met (os:Os) (args:Array Value):laidMetH Tryd.prog lay ((World.doorLaid Tryd.prog 400 os).forCall (fun _ _=>0) ⟨#[],args,[]⟩).memory :=
 laidMetH_of_parts3 (fuel:=8) (laidMet_of_run' 8 (by kernel_rfl) (by kernel_rfl)) (by kernel_rfl) (by kernel_rfl)
abbrev gl:Glos:=[(0,glob_filter_steps.flatMap (cI .u32))]
theorem of_lay {W:World} (h:laidMetH Tryd.prog lay W):∀ g∈gl,GloAt (allS W) W g.1 g.2:=by
 rw [MakeChecks.laidMetH_plain _ _ _ (by kernel_rfl)] at h
 exact List.forall_mem_cons.2 ⟨laid_ints (t := 119) (e := 100) (n := 16) (k := .u32) (l := glob_filter_steps) (by kernel_rfl) (by kernel_rfl) (by kernel_rfl) (by kernel_rfl) (by kernel_rfl) (by kernel_rfl) rfl (laid_one (lay := lay) (nm := "printworks/filter.steps") (d := Rows.laid_printworks_filter_steps) (List.mem_of_getElem? (i := 0) rfl) h),fun _ h => by cases h⟩
set_option maxRecDepth 100000 in
theorem lifted (os:Os) (started:os.Started) (H:Type) (enc:TypeId×Value→H) :
  ReturnsInHanded {} Tryd.checked os 3 .any (fun w args=>(Rows.fontSubsetGlyphsSpec.pre enc Tryd.prog Tryd.f3 [] false w args∧laidMetH Tryd.prog lay w)∧sizedMet enc Tryd.prog Tryd.f3 (OpenSpec.ofChange Rows.fontSubsetGlyphsSpec) false w args)
   (Rows.fontSubsetGlyphsSpec.post enc Tryd.prog Tryd.f3 false true false false):=by
 refine returnsInHanded_of_change_and (C:=Tryd.checked) (X:=fun w _=>laidMetH Tryd.prog lay w) (fun _ _ _ hh h=>h.of_heap hh) own started (by kernel_rfl) Tryd.func3
  (ChangeSpec.witness_shaped (enc:=enc) (C:=Tryd.checked) (os:=os) (X:=fun w _=>laidMetH Tryd.prog lay w) false (World.doorLaid Tryd.prog 400 os) #[.agg #[.int .i64 0,.slice none 0 0,.slice none 0 0,.slice none 0 0],.slice none 0 0] 8 rfl (World.shaped_of_RefB (by kernel_rfl) (by kernel_rfl)) (by kernel_rfl) (by kernel_rfl) (by kernel_rfl) (door_met os _)) ?_
 intro W base args ds gs before hval hW _ _ hL _
 exact law_contractGs gl (tb:=4) (ts:=[26,27]) (by kernel_rfl) opens_args (fun _=>by simp [resSlot]) (fun b hb=>let ⟨_,h⟩:=(show ∃ F,law3_FontSubsetGlyphs F b.1 b.2.1=some true from ⟨1200000,subset_law b.1 b.2.1⟩); law3_FontSubsetGlyphs_ok h) (by kernel_rfl) (by kernel_rfl) rfl rfl Tryd.underlying4
   (fun ds hd=>match ds,hd with | [_,_],_=>rfl) W base args ds gs before (of_lay hL) hval hW
theorem fontSubsetGlyphs_row:Rows.FontSubsetGlyphsSaid :=
 OpenClaim.holds_of_wide 3 Tryd.f3 rfl rfl rfl rfl rfl rfl rfl ⟨rfl,rfl,rfl,rfl,rfl⟩ rfl rfl rfl rfl rfl (by kernel_rfl) Tryd.func3 (by kernel_rfl)
  (of_decide_eq_true (by kernel_rfl)) (by unfold Func.isWrapper; first | (rw [if_pos (by decide +kernel)]; kernel_rfl) | (rw [if_neg (by decide +kernel)]; exact ⟨rfl,rfl⟩))
  (fun os started H enc _=>lifted os started H enc)
theorem fontSubsetGlyphs_holds:Rows.FontSubsetGlyphsCardSaid :=
 Claim7.holds_tied_plain_at .later [] [.data] true (true,"b2bc816109066ecabbf9aa0bab32381c15e7345d7671a021571d003103339a36") false
  fontSubsetGlyphs_row (fun _ h=>by cases h) (by kernel_rfl) (fun _ h=>by cases h) fontSubsetGlyphs_row_tie rfl ⟨rfl,rfl⟩ (by kernel_rfl) rfl
  (fun f fn hf hfn=>by
   obtain rfl : f = 3 := Option.some.inj ((show Tryd.prog.funcNamed "printworks/printworkslaw3.FontSubsetGlyphs" = some 3 by kernel_rfl).symm.trans hf) |>.symm
   obtain rfl:fn=Tryd.f3:=(Option.some.inj (Tryd.func3.symm.trans hfn)).symm
   exact ⟨by kernel_rfl,fun j t ht=>by
    rw [Tryd.params3] at ht
    have h3:t=26∨t=27:=by
     match j,ht with
     | 0,ht=>have ht:some 26=some t:=ht; cases ht; simp
     | 1,ht=>have ht:some 27=some t:=ht; cases ht; simp
     | j+2,ht=>simp at ht
    rcases h3 with rfl | rfl
    ·exact (show Tryd.prog.wantsStandIn 26=false by kernel_rfl)
    ·exact (show Tryd.prog.wantsStandIn 27=false by kernel_rfl)⟩)
  (by kernel_rfl)
#print axioms fontSubsetGlyphs_holds
end Go.Proofs.YtkoocklcgndanaaDoor
