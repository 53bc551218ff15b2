/-
  Each pixel of a plate is the pixel of the page that the reference finds there
-/
import Derived.Test.YteidenpelbooeaaVmC
import Derived.Stop.Joined
import Derived.Test.YteidenpelbooeaaBinLv
import Derived.Test.YteidenpelbooeaaBinP4
import Derived.Test.YteidenpelbooeaaRows
namespace Go.Proofs.Yteidenpelbooeaa
open Go.ChangeShapes Go.WideShapes Go.ChangeAt Go.WideMaps Go.WideElems Go.RowKit Go.Vm Go.Vm.BinG
theorem own:ownKnob Try.prog.godebug=none:=by kernel_rfl
def Q115 (x:S_FoldStep):Prop:=(Lit.int .i64 x.f0).wf=true∧(Lit.int .i64 x.f1).wf=true∧True∧True
theorem opens_115:Opens Try.prog 115 cS_FoldStep Q115 :=
  (opens_struct (t:=115) (N:=3) Try.underlying115 (by kernel_rfl) (opensN_cons (sz:=1) rfl (by kernel_rfl) (by decide) (opens_int (k:=.i64) (by kernel_rfl))
    (opensN_cons (sz:=1) rfl (by kernel_rfl) (by decide) (opens_int (k:=.i64) (by kernel_rfl))
    (opensN_cons (sz:=1) rfl (by kernel_rfl) (by decide) (opens_bool (by kernel_rfl))
    (opensN_nil _ _))))).map
    (fun x=>(⟨x.1,x.2.1,x.2.2.1⟩:S_FoldStep)) (fun x=>by simp [cS_FoldStep]) (fun _ h=>h)
def Q27 (x:S_FoldScheme):Prop:=(Lit.int .i64 x.f0).wf=true∧(Lit.int .i64 x.f1).wf=true∧(x.f2.length≤maxLen∧∀ a∈x.f2,Q115 a)∧True
theorem opens_27:Opens Try.prog 27 cS_FoldScheme Q27 :=
  (opens_struct (t:=27) (N:=3) Try.underlying27 (by kernel_rfl) (opensN_cons (sz:=1) rfl (by kernel_rfl) (by decide) (opens_int (k:=.i64) (by kernel_rfl))
    (opensN_cons (sz:=1) rfl (by kernel_rfl) (by decide) (opens_int (k:=.i64) (by kernel_rfl))
    (opensN_cons (sz:=1) rfl (by kernel_rfl) (by decide) (opens_slice (e:=115) (sz:=3) (by kernel_rfl) (by kernel_rfl) (by decide) opens_115)
    (opensN_nil _ _))))).map
    (fun x=>(⟨x.1,x.2.1,x.2.2.1⟩:S_FoldScheme)) (fun x=>by simp [cS_FoldScheme]) (fun _ h=>h)
def Q29 (x:S_ImposeLayout):Prop:=Q27 x.f0∧(Lit.int .i64 x.f1).wf=true∧(Lit.int .i64 x.f2).wf=true∧(Lit.int .i64 x.f3).wf=true∧(Lit.int .i64 x.f4).wf=true∧(Lit.int .i64 x.f5).wf=true∧(Lit.int .i64 x.f6).wf=true∧(Lit.int .i64 x.f7).wf=true∧(Lit.int .i64 x.f8).wf=true∧True
theorem opens_29:Opens Try.prog 29 cS_ImposeLayout Q29 :=
  (opens_struct (t:=29) (N:=11) Try.underlying29 (by kernel_rfl) (opensN_cons (sz:=3) rfl (by kernel_rfl) (by decide) opens_27
    (opensN_cons (sz:=1) rfl (by kernel_rfl) (by decide) (opens_int (k:=.i64) (by kernel_rfl))
    (opensN_cons (sz:=1) rfl (by kernel_rfl) (by decide) (opens_int (k:=.i64) (by kernel_rfl))
    (opensN_cons (sz:=1) rfl (by kernel_rfl) (by decide) (opens_int (k:=.i64) (by kernel_rfl))
    (opensN_cons (sz:=1) rfl (by kernel_rfl) (by decide) (opens_int (k:=.i64) (by kernel_rfl))
    (opensN_cons (sz:=1) rfl (by kernel_rfl) (by decide) (opens_int (k:=.i64) (by kernel_rfl))
    (opensN_cons (sz:=1) rfl (by kernel_rfl) (by decide) (opens_int (k:=.i64) (by kernel_rfl))
    (opensN_cons (sz:=1) rfl (by kernel_rfl) (by decide) (opens_int (k:=.i64) (by kernel_rfl))
    (opensN_cons (sz:=1) rfl (by kernel_rfl) (by decide) (opens_int (k:=.i64) (by kernel_rfl))
    (opensN_nil _ _))))))))))).map
    (fun x=>(⟨x.1,x.2.1,x.2.2.1,x.2.2.2.1,x.2.2.2.2.1,x.2.2.2.2.2.1,x.2.2.2.2.2.2.1,x.2.2.2.2.2.2.2.1,x.2.2.2.2.2.2.2.2.1⟩:S_ImposeLayout)) (fun x=>by simp [cS_ImposeLayout,cS_FoldScheme]) (fun _ h=>h)
theorem opens_args:OpensArgs Try.prog [29,3,4] (fun z:S_ImposeLayout×Int×Bool×Unit=>[.agg (cS_ImposeLayout z.1),.d (.v (.int .i64 z.2.1)),.d (.v (.bool z.2.2.1))]) (fun z=>Q29 z.1∧(Lit.int .i64 z.2.1).wf=true∧True∧True) :=
  (opensArgs_agg Try.underlying29 opens_29 (opensArgs_flat (x:=fun y:Int=>.v (.int .i64 y)) (by kernel_rfl) (fun _=>rfl) (opens_int (k:=.i64) (by kernel_rfl)) (opensArgs_flat (x:=fun y:Bool=>.v (.bool y)) (by kernel_rfl) (fun _=>rfl) (opens_bool (by kernel_rfl)) (opensArgs_nil _))))
abbrev gl:Glos:=[]
theorem of_lay {W:World}:∀ g∈gl,GloAt (allS W) W g.1 g.2:=fun _ h=>by cases h
set_option maxRecDepth 100000 in
theorem lifted (os:Os) (started:os.Started) (H:Type) (enc:TypeId×Value→H) :
    ReturnsInHanded {} Try.checked os 5 .any (Rows.imposePlateMatchesReferenceSpec.pre6 enc Try.prog Try.f5 Rows.imposePlateMatchesReferenceRow.domain false) (Rows.imposePlateMatchesReferenceSpec.post enc Try.prog Try.f5 false true false false) :=
  returnsInHanded_of_change (C:=Try.checked) own started (by kernel_rfl) Try.func5
    (ChangeSpec.witness6 (enc:=enc) (C:=Try.checked) false ⟨#[],#[.agg #[.int .i64 0,.int .i64 0,.slice none 0 0,.int .i64 0,.int .i64 0,.int .i64 0,.int .i64 0,.int .i64 0,.int .i64 0,.int .i64 0,.int .i64 0],.int .i64 0,.bool false],[]⟩ 8 (by kernel_rfl) (by kernel_rfl) (by kernel_rfl) (by kernel_rfl))
    fun W base args ds gs before hval hW _ _=>law_contractGs gl (tb:=4) (ts:=[29,3,4]) (by kernel_rfl) opens_args (fun _=>by simp [resSlot]) (fun b hb=>let ⟨_,h⟩:=(show ∃ F,law3_ImposePlateMatchesReference F b.1 b.2.1 b.2.2.1=some true from ⟨0+2000000,plate_law 0 b.1 b.2.1 b.2.2.1⟩); law3_ImposePlateMatchesReference_ok h) (by kernel_rfl) (by kernel_rfl) rfl rfl Try.underlying4
      (fun ds hd=>match ds,hd with | [_,_,_],_=>rfl) W base args ds gs before of_lay hval hW
theorem imposePlateMatchesReference_row:Rows.ImposePlateMatchesReferenceSaid :=
  OpenClaim.holds_of_wide 5 Try.f5 rfl rfl rfl rfl rfl rfl rfl ⟨rfl,rfl,rfl,rfl,rfl⟩ rfl rfl rfl rfl rfl (by kernel_rfl) Try.func5 (by kernel_rfl)
    (of_decide_eq_true (by kernel_rfl)) (by unfold Func.isWrapper; first | (rw [if_pos (by decide +kernel)]; kernel_rfl) | (rw [if_neg (by decide +kernel)]; exact ⟨rfl,rfl⟩))
    (fun os started H enc _=>lifted os started H enc)
theorem imposePlateMatchesReference_holds:Rows.ImposePlateMatchesReferenceSaid:=imposePlateMatchesReference_row
#print axioms imposePlateMatchesReference_holds
end Go.Proofs.Yteidenpelbooeaa
