/-
  The standard schema accepts exactly the tickets with the stated entries: the law returns true,and its argument reads as before.
-/
import Derived.Test.YtbfjbkndglcabaaDoorVmD
import Derived.Test.YtbfjbkndglcabaaDoorVmC
import Derived.Stop.Joined
import Derived.Test.YtbfjbkndglcabaaDoorTicLs
import Derived.Test.YtbfjbkndglcabaaDoorTicP4
import Derived.Test.YtbfjbkndglcabaaDoorRows
import Derived.Test.YtbfjbkndglcabaaDoorTie
import Derived.Test.YtbfjbkndglcabaaDoorCards
namespace Go.Proofs.YtbfjbkndglcabaaDoor
open Go.ChangeShapes Go.WideShapes Go.ChangeAt Go.WideMaps Go.WideElems Go.RowKit Go.Vm Go.Vm.TicG
theorem own:ownKnob Tryd.prog.godebug=none:=by kernel_rfl
inductive Q26:S_Object→Prop
  | mk {x0:Int} {x1:Int} {x2:List UInt8} {x3:List (List UInt8)} {x4:List S_Object} (h0:(Lit.int .i64 x0).wf=true) (h1:(Lit.int .i64 x1).wf=true) (h2:x2.length≤maxLen) (h3:(x3.length≤maxLen∧∀ a∈x3,a.length≤maxLen)) (h4a:x4.length≤maxLen) (h4b:∀ a∈x4,Q26 a):Q26 ⟨x0,x1,x2,x3,x4⟩
theorem opens_26:Opens Tryd.prog 26 cS_Object Q26:=opens_rec fun b ih =>
  (opensB_struct (t:=26) (N:=5) Tryd.underlying26 (by kernel_rfl) (opensNB_cons (sz:=1) rfl (by kernel_rfl) (by decide) ((opens_int (k:=.i64) (by kernel_rfl)).toB _)
    (opensNB_cons (sz:=1) rfl (by kernel_rfl) (by decide) ((opens_int (k:=.i64) (by kernel_rfl)).toB _)
    (opensNB_cons (sz:=1) rfl (by kernel_rfl) (by decide) ((opens_str (by kernel_rfl)).toB _)
    (opensNB_cons (sz:=1) rfl (by kernel_rfl) (by decide) ((opens_slice (e:=9) (sz:=1) (by kernel_rfl) (by kernel_rfl) (by decide) (opens_str (by kernel_rfl))).toB _)
    (opensNB_cons (sz:=1) rfl (by kernel_rfl) (by decide) ((opensB_slice (e:=26) (sz:=5) (by kernel_rfl) (by kernel_rfl) (by decide) (ih.map id rS_Object_eq (fun _ h=>h))).mono (Nat.le_succ _))
    (opensNB_nil _ _ _))))))).map
    (fun x=>(⟨x.1,x.2.1,x.2.2.1,x.2.2.2.1,x.2.2.2.2.1⟩:S_Object)) (fun x=>by simp [cS_Object]) (fun _ h=>.mk h.1 h.2.1 h.2.2.1 h.2.2.2.1 h.2.2.2.2.1.1 h.2.2.2.2.1.2)
theorem sm_of {x:S_Object} (h:Q26 x):Sm x:=by
  induction h with
  | mk h0 h1 h2 h3 h4a h4b ih=>exact .mk h2 h3.2 ih
theorem opens_args:OpensArgs Tryd.prog [26] (fun z:S_Object×Unit=>[.agg (cS_Object z.1)]) (fun z=>Q26 z.1∧True) :=
  (opensArgs_agg Tryd.underlying26 opens_26 (opensArgs_nil _))
abbrev lay : List (String × DataW Unit) := [("math/bits.deBruijn32tab",Rows.laid_math_bits_deBruijn32tab),("math/bits.deBruijn64tab",Rows.laid_math_bits_deBruijn64tab),("internal/strconv.uint64pow10",Rows.laid_internal_strconv_uint64pow10)]
theorem door_met (os:Os) (args:Array Value):laidMetH Tryd.prog lay ((World.doorLaid Tryd.prog 400 os).forCall (fun _ _=>0) ⟨#[],args,[]⟩).memory :=
  laidMetH_of_parts3 (fuel:=8) (laidMet_of_run' 8 (by kernel_rfl) (by kernel_rfl)) (by kernel_rfl) (by kernel_rfl)
abbrev gl:Glos:=[(0,glob_internal_strconv_uint64pow10.flatMap (cI .u64))]
theorem of_lay {W:World} (h:laidMetH Tryd.prog lay W):∀ g∈gl,GloAt (allS W) W g.1 g.2:=by
  rw [MakeChecks.laidMetH_plain _ _ _ (by kernel_rfl)] at h
  exact List.forall_mem_cons.2 ⟨laid_ints (t := 114) (e := 104) (n := 20) (k := .u64) (l := glob_internal_strconv_uint64pow10) (by kernel_rfl) (by kernel_rfl) (by kernel_rfl) (by kernel_rfl) (by kernel_rfl) (by kernel_rfl) rfl (laid_one (lay := lay) (nm := "internal/strconv.uint64pow10") (d := Rows.laid_internal_strconv_uint64pow10) (List.mem_of_getElem? (i := 2) rfl) h),fun _ h => by cases h⟩
set_option maxRecDepth 100000 in
theorem lifted (os:Os) (started:os.Started) (H:Type) (enc:TypeId×Value→H) :
    ReturnsInHanded {} Tryd.checked os 5 .any (fun w args=>(Rows.ticketStandardSchemaSpec.pre enc Tryd.prog Tryd.f5 [] false w args∧laidMetH Tryd.prog lay w)∧sizedMet enc Tryd.prog Tryd.f5 (OpenSpec.ofChange Rows.ticketStandardSchemaSpec) false w args)
      (Rows.ticketStandardSchemaSpec.post enc Tryd.prog Tryd.f5 false true false false):=by
  refine returnsInHanded_of_change_and (C:=Tryd.checked) (X:=fun w _=>laidMetH Tryd.prog lay w) (fun _ _ _ hh h=>h.of_heap hh) own started (by kernel_rfl) Tryd.func5
    (ChangeSpec.witness_shaped (enc:=enc) (C:=Tryd.checked) (os:=os) (X:=fun w _=>laidMetH Tryd.prog lay w) false (World.doorLaid Tryd.prog 400 os) #[.agg #[.int .i64 0,.int .i64 0,.string ⟨#[]⟩,.slice none 0 0,.slice none 0 0]] 8 rfl (World.shaped_of_RefB (by kernel_rfl) (by kernel_rfl)) (by kernel_rfl) (by kernel_rfl) (by kernel_rfl) (door_met os _)) ?_
  intro W base args ds gs before hval hW _ _ hL _
  exact law_contractGs gl (tb:=4) (ts:=[26]) (by kernel_rfl) opens_args (fun _=>by simp [resSlot]) (fun b hb=>let ⟨_,h⟩:=(show ∃ F,law3_TicketStandardSchema F b.1=some true from ⟨maxLen+4294967300,standard_law (Nat.le_add_left _ _) (Nat.lt_add_of_pos_right (by decide)) (sm_of hb.1)⟩); law3_TicketStandardSchema_ok h) (by kernel_rfl) (by kernel_rfl) rfl rfl Tryd.underlying4
      (fun ds hd=>match ds,hd with | [_],_=>rfl) W base args ds gs before (of_lay hL) hval hW
theorem ticketStandardSchema_row:Rows.TicketStandardSchemaSaid :=
  OpenClaim.holds_of_wide 5 Tryd.f5 rfl rfl rfl rfl rfl rfl rfl ⟨rfl,rfl,rfl,rfl,rfl⟩ rfl rfl rfl rfl rfl (by kernel_rfl) Tryd.func5 (by kernel_rfl)
    (of_decide_eq_true (by kernel_rfl)) (by unfold Func.isWrapper; first | (rw [if_pos (by decide +kernel)]; kernel_rfl) | (rw [if_neg (by decide +kernel)]; exact ⟨rfl,rfl⟩))
    (fun os started H enc _=>lifted os started H enc)
theorem ticketStandardSchema_holds:Rows.TicketStandardSchemaCardSaid :=
  Claim7.holds_tied_plain_at .later [] [.data,.data,.data] true (true,"94f1e2c13310817a0173b9b29703c039c29d0556e4ac4ae8322d28e37d8f214a") false
    ticketStandardSchema_row (fun _ h=>by cases h) (by kernel_rfl) (fun _ h=>by cases h) ticketStandardSchema_row_tie rfl ⟨rfl,rfl⟩ (by kernel_rfl) rfl
    (fun f fn hf hfn=>by
      obtain rfl : f = 5 := Option.some.inj ((show Tryd.prog.funcNamed "printworks/printworkslaw3.TicketStandardSchema" = some 5 by kernel_rfl).symm.trans hf) |>.symm
      obtain rfl:fn=Tryd.f5:=(Option.some.inj (Tryd.func5.symm.trans hfn)).symm
      exact ⟨by kernel_rfl,fun j t ht=>by
        rw [Tryd.params5] at ht
        have h3:t=26:=by
          match j,ht with
          | 0,ht=>have ht:some 26=some t:=ht; cases ht; simp
          | j+1,ht=>simp at ht
        subst h3
        exact (show Tryd.prog.wantsStandIn 26=false by kernel_rfl)⟩)
    (by kernel_rfl)
#print axioms ticketStandardSchema_holds
end Go.Proofs.YtbfjbkndglcabaaDoor
