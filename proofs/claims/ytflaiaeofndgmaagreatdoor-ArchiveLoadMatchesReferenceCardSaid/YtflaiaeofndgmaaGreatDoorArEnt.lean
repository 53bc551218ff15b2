/-
  Load restores exactly the names whose lines,and those of their pieces,count: the law returns true,and its argument reads as before.
-/
import Derived.Lay
import Derived.Test.YtflaiaeofndgmaaGreatDoorVmD
import Derived.Test.YtflaiaeofndgmaaGreatDoorVmC
import Derived.Stop.Joined
import Derived.Stop.LaidErr
import Derived.Test.YtflaiaeofndgmaaGreatDoorArTi
import Derived.Test.YtflaiaeofndgmaaGreatDoorArWn
import Derived.Test.YtflaiaeofndgmaaGreatDoorRows
import Derived.Test.YtflaiaeofndgmaaGreatDoorTie
import Derived.Test.YtflaiaeofndgmaaGreatDoorCards
namespace Go.Proofs.YtflaiaeofndgmaaGreatDoor
open Go.ChangeShapes Go.WideShapes Go.ChangeAt Go.WideMaps Go.WideElems Go.RowKit Go.Vm Go.Vm.ArzG
theorem own:ownKnob Tryz.prog.godebug=none:=by kernel_rfl
theorem opens_args:OpensArgs Tryz.prog [9] (fun z:(List UInt8)×Unit=>[.d (.str z.1)]) (fun z=>z.1.length≤maxLen∧True) :=
 (opensArgs_flat (x:=fun y:List UInt8=>.str y) (by kernel_rfl) (fun _=>rfl) (opens_str (by kernel_rfl)) (opensArgs_nil _))
abbrev lay : List (String × DataW Unit) := [("math/bits.deBruijn32tab",Rows.laid_math_bits_deBruijn32tab),("math/bits.deBruijn64tab",Rows.laid_math_bits_deBruijn64tab),("internal/strconv.uint64pow10",Rows.laid_internal_strconv_uint64pow10),("unicode/utf8.acceptRanges",Rows.laid_unicode_utf8_acceptRanges),("strconv.ErrRange",Rows.laid_strconv_ErrRange),("strconv.ErrSyntax",Rows.laid_strconv_ErrSyntax),("printworks/filter.steps",Rows.laid_printworks_filter_steps),("unicode/utf8.first",Rows.laid_unicode_utf8_first)]
theorem door_met (os:Os) (args:Array Value):laidMetH Tryz.prog lay ((World.laidAll Tryz.prog os lay).forCall (fun _ _=>0) ⟨#[],args,[]⟩).memory:=by rw [MakeChecks.laidMetH_plain _ _ _ (by kernel_rfl)]; exact laidMet_laidAll _ (by kernel_rfl) (by kernel_rfl)
theorem star : "*" ++ "errors.errorString" = "*errors.errorString" := by decide
theorem row147 (u : TypeId) (h : Tryz.prog.typeName? 3 u = some "*errors.errorString") : u = 147 :=
 typeName_ptr_named (nm := "errors.errorString") (by rw [star]; kernel_rfl) (by kernel_rfl) (by decide) u (by rw [star]; exact h)
theorem of_lay {W:World} (h:laidMetH Tryz.prog lay W):Laid W:=by
 rw [MakeChecks.laidMetH_plain _ _ _ (by kernel_rfl)] at h
 obtain ⟨a0,s0,h0,-,-,-⟩ := laid_sentinel (laid_one (lay := lay) (nm := "strconv.ErrSyntax") (d := Rows.laid_strconv_ErrSyntax) (List.mem_of_getElem? (i := 5) rfl) h) (show Tryz.prog.globalNamed "strconv.ErrSyntax" = some 4 by kernel_rfl) (show (Tryz.prog.globals[4]?).map (·.type) = some 76 by kernel_rfl) Tryz.underlying76 row147 Tryz.underlying147 Tryz.underlying149 rfl rfl Tryz.underlying9 (by kernel_rfl) (by kernel_rfl)
 obtain ⟨a1,s1,h1,-,-,-⟩ := laid_sentinel (laid_one (lay := lay) (nm := "strconv.ErrRange") (d := Rows.laid_strconv_ErrRange) (List.mem_of_getElem? (i := 4) rfl) h) (show Tryz.prog.globalNamed "strconv.ErrRange" = some 5 by kernel_rfl) (show (Tryz.prog.globals[5]?).map (·.type) = some 76 by kernel_rfl) Tryz.underlying76 row147 Tryz.underlying147 Tryz.underlying149 rfl rfl Tryz.underlying9 (by kernel_rfl) (by kernel_rfl)
 refine ⟨laid_ints (t := 102) (e := 56) (n := 16) (k := .u32) (l := glob_filter_steps) (by kernel_rfl) (by kernel_rfl) (by kernel_rfl) (by kernel_rfl) (by kernel_rfl) (by kernel_rfl) rfl (laid_one (lay := lay) (nm := "printworks/filter.steps") (d := Rows.laid_printworks_filter_steps) (List.mem_of_getElem? (i := 6) rfl) h),
  laid_ints (t := 151) (e := 135) (n := 20) (k := .u64) (l := Lib.pow10Tab) (by kernel_rfl) (by kernel_rfl) (by kernel_rfl) (by kernel_rfl) (by kernel_rfl) (by kernel_rfl) rfl (laid_one (lay := lay) (nm := "internal/strconv.uint64pow10") (d := Rows.laid_internal_strconv_uint64pow10) (List.mem_of_getElem? (i := 2) rfl) h),⟨147,.pointer (some a0),?_⟩,⟨147,.pointer (some a1),?_⟩⟩
 ·exact by simpa using World.var?_cell (show Tryz.prog.globalNamed "strconv.ErrSyntax" = some 4 by kernel_rfl) h0 0
 ·exact by simpa using World.var?_cell (show Tryz.prog.globalNamed "strconv.ErrRange" = some 5 by kernel_rfl) h1 0
theorem law_calls {W:World} (hl:Laid W) (s:List UInt8) {args:Array Value} (hr:All2 (fun _ a u=>RFlat (allS W) W (fun _=>.bool false) (0,0) a u) 0 [.d (.str s)] args.toList):Calls Tryz.prog 3 args W fun e W'=>e=.returned (.bool true)∧Below W.heap.size W W':=by
 obtain ⟨l⟩:=args
 have e:l=[strOf s]:=by
  match l,hr with
  | [u],hr=>exact congrArg (fun x=>[x]) (show u=strOf s from hr.1)
  | [],hr=>exact hr.elim
  | _ :: _ :: _,hr=>exact hr.2.elim
 subst e
 by_cases hs:2097152 < s.length
 ·exact law_big hl hs
 ·obtain ⟨F,n,st,ld,names,data,missing,h1,h2,h3,h4,h5,h6,h7,h8,h9⟩:=Go.Vm.ArzG.L.load_law s hs
  exact law_at hl hs h1 h2 h3 h4 h5 h6 h7 h8 h9
set_option maxRecDepth 100000 in
theorem lifted (os:Os) (started:os.Started) (H:Type) (enc:TypeId×Value→H) :
  ReturnsInHanded {} Tryz.checked os 3 .any (fun w args=>(Rows.archiveLoadMatchesReferenceSpec.pre enc Tryz.prog Tryz.f3 [] false w args∧laidMetH Tryz.prog lay w)∧sizedMet enc Tryz.prog Tryz.f3 (OpenSpec.ofChange Rows.archiveLoadMatchesReferenceSpec) false w args)
   (Rows.archiveLoadMatchesReferenceSpec.post enc Tryz.prog Tryz.f3 false true false false):=by
 refine returnsInHanded_of_change_and (C:=Tryz.checked) (X:=fun w _=>laidMetH Tryz.prog lay w) (fun _ _ _ hh h=>h.of_heap hh) own started (by kernel_rfl) Tryz.func3
  (ChangeSpec.witness_shaped (enc:=enc) (C:=Tryz.checked) (os:=os) (X:=fun w _=>laidMetH Tryz.prog lay w) false (World.laidAll Tryz.prog os lay) #[.string ⟨#[]⟩] 8 (World.laidAll_os _ _ _) (World.shaped_of_ZipB (by kernel_rfl) (by kernel_rfl)) (by kernel_rfl) (by kernel_rfl) (by kernel_rfl) (door_met os _)) ?_
 intro W base args ds gs before hval hW _ _ hL _
 exact law_contractC (tb:=4) (ts:=[9]) rfl opens_args (by kernel_rfl) (by kernel_rfl) rfl rfl Tryz.underlying4
   (fun ds hd=>match ds,hd with | [_],_=>rfl) W base args ds gs before (fun b hb hr=>law_calls (of_lay hL) b.1 hr) hval hW
theorem archiveLoadMatchesReference_row:Rows.ArchiveLoadMatchesReferenceSaid :=
 OpenClaim.holds_of_wide 3 Tryz.f3 rfl rfl rfl rfl rfl rfl rfl ⟨rfl,rfl,rfl,rfl,rfl⟩ rfl rfl rfl rfl rfl (by kernel_rfl) Tryz.func3 (by kernel_rfl)
  (of_decide_eq_true (by kernel_rfl)) (by unfold Func.isWrapper; first | (rw [if_pos (by decide +kernel)]; kernel_rfl) | (rw [if_neg (by decide +kernel)]; exact ⟨rfl,rfl⟩))
  (fun os started H enc _=>lifted os started H enc)
theorem archiveLoadMatchesReference_holds:Rows.ArchiveLoadMatchesReferenceCardSaid :=
 Claim7.holds_tied_plain_at .later [] [.data,.data,.data,.data,.sentinel,.sentinel,.data,.pinned] true (true,"95ea26fa8a06cf5419334e96ee837d2f0f0ef564a621ca8557a46afcf276143e") true
  archiveLoadMatchesReference_row (fun _ h=>by cases h) (by kernel_rfl) (fun _ h=>by cases h) archiveLoadMatchesReference_row_tie rfl ⟨rfl,rfl⟩ (by kernel_rfl) rfl
  (fun f fn hf hfn=>by
   obtain rfl : f = 3 := Option.some.inj ((show Tryz.prog.funcNamed "printworks/printworkslaw3.ArchiveLoadMatchesReference" = some 3 by kernel_rfl).symm.trans hf) |>.symm
   obtain rfl:fn=Tryz.f3:=(Option.some.inj (Tryz.func3.symm.trans hfn)).symm
   exact ⟨by kernel_rfl,fun j t ht=>by
    rw [Tryz.params3] at ht
    have h3:t=9:=by
     match j,ht with
     | 0,ht=>have ht:some 9=some t:=ht; cases ht; simp
     | j+1,ht=>simp at ht
    subst h3
    exact (show Tryz.prog.wantsStandIn 9=false by kernel_rfl)⟩)
  (by kernel_rfl)
#print axioms archiveLoadMatchesReference_holds
end Go.Proofs.YtflaiaeofndgmaaGreatDoor
