/-
  Groups that do nothing: a group that is neither isolated nor a knockout group,of the opacity 255,and an isolated group of opaque normal fills without overprint leave every cell as it is without the group: the law returns true for every input,and its arguments read as before.
-/
import Derived.Test.YtjjclmimifionaaVmD
import Derived.Test.YtjjclmimifionaaVmC
import Derived.Stop.Joined
import Derived.Test.YtjjclmimifionaaLb
import Derived.Test.YtjjclmimifionaaPc
import Derived.Test.YtjjclmimifionaaRows
namespace Go.Proofs.Ytjjclmimifionaa
open Go.ChangeShapes Go.WideShapes Go.ChangeAt Go.WideMaps Go.WideElems Go.RowKit Go.Vm Go.Vm.TopG
theorem own:ownKnob Try.prog.godebug=none:=by kernel_rfl
def Q72 (x:S_Run):Prop:=(Lit.int .i64 x.f0).wf=true∧(Lit.int .i64 x.f1).wf=true∧(Lit.int .i64 x.f2).wf=true∧True
theorem opens_72:Opens Try.prog 72 cS_Run Q72 :=
 (opens_struct (t:=72) (N:=3) Try.underlying72 (by kernel_rfl) (opensN_cons (sz:=1) rfl (by kernel_rfl) (by decide) (opens_int (k:=.i64) (by kernel_rfl))
  (opensN_cons (sz:=1) rfl (by kernel_rfl) (by decide) (opens_int (k:=.i64) (by kernel_rfl))
  (opensN_cons (sz:=1) rfl (by kernel_rfl) (by decide) (opens_int (k:=.i64) (by kernel_rfl))
  (opensN_nil _ _))))).map
  (fun x=>(⟨x.1,x.2.1,x.2.2.1⟩:S_Run)) (fun x=>by simp [cS_Run]) (fun _ h=>h)
def Q35 (x:S_Inks):Prop:=(Lit.int .u8 x.f0).wf=true∧(Lit.int .u8 x.f1).wf=true∧(Lit.int .u8 x.f2).wf=true∧(Lit.int .u8 x.f3).wf=true∧(Lit.int .u8 x.f4).wf=true∧(Lit.int .u8 x.f5).wf=true∧(Lit.int .u8 x.f6).wf=true∧(Lit.int .u8 x.f7).wf=true∧True
theorem opens_35:Opens Try.prog 35 cS_Inks Q35 :=
 (opens_arrF (t := 35) (N := 8) (e := 5) (n := 8) (sz := 1) Try.underlying35 (by kernel_rfl) (by kernel_rfl) (opensN_cons (f := ⟨"",5,0,false,"","",0⟩) (fs := arrFs 5 1 1 7) (o := 0) (sz := 1) rfl (by kernel_rfl) (by decide) (opens_int (k := .u8) (by kernel_rfl))
  (opensN_cons (f := ⟨"",5,1,false,"","",0⟩) (fs := arrFs 5 1 2 6) (o := 1) (sz := 1) rfl (by kernel_rfl) (by decide) (opens_int (k := .u8) (by kernel_rfl))
  (opensN_cons (f := ⟨"",5,2,false,"","",0⟩) (fs := arrFs 5 1 3 5) (o := 2) (sz := 1) rfl (by kernel_rfl) (by decide) (opens_int (k := .u8) (by kernel_rfl))
  (opensN_cons (f := ⟨"",5,3,false,"","",0⟩) (fs := arrFs 5 1 4 4) (o := 3) (sz := 1) rfl (by kernel_rfl) (by decide) (opens_int (k := .u8) (by kernel_rfl))
  (opensN_cons (f := ⟨"",5,4,false,"","",0⟩) (fs := arrFs 5 1 5 3) (o := 4) (sz := 1) rfl (by kernel_rfl) (by decide) (opens_int (k := .u8) (by kernel_rfl))
  (opensN_cons (f := ⟨"",5,5,false,"","",0⟩) (fs := arrFs 5 1 6 2) (o := 5) (sz := 1) rfl (by kernel_rfl) (by decide) (opens_int (k := .u8) (by kernel_rfl))
  (opensN_cons (f := ⟨"",5,6,false,"","",0⟩) (fs := arrFs 5 1 7 1) (o := 6) (sz := 1) rfl (by kernel_rfl) (by decide) (opens_int (k := .u8) (by kernel_rfl))
  (opensN_cons (f := ⟨"",5,7,false,"","",0⟩) (fs := arrFs 5 1 8 0) (o := 7) (sz := 1) rfl (by kernel_rfl) (by decide) (opens_int (k := .u8) (by kernel_rfl))
  (opensN_nil _ _)))))))))).map
  (fun x=>(⟨x.1,x.2.1,x.2.2.1,x.2.2.2.1,x.2.2.2.2.1,x.2.2.2.2.2.1,x.2.2.2.2.2.2.1,x.2.2.2.2.2.2.2.1⟩:S_Inks)) (fun x=>by simp [cS_Inks]) (fun _ h=>h)
def Q37 (x:S_Point):Prop:=(Lit.int .i64 x.f0).wf=true∧(Lit.int .i64 x.f1).wf=true∧True
theorem opens_37:Opens Try.prog 37 cS_Point Q37 :=
 (opens_struct (t:=37) (N:=2) Try.underlying37 (by kernel_rfl) (opensN_cons (sz:=1) rfl (by kernel_rfl) (by decide) (opens_int (k:=.i64) (by kernel_rfl))
  (opensN_cons (sz:=1) rfl (by kernel_rfl) (by decide) (opens_int (k:=.i64) (by kernel_rfl))
  (opensN_nil _ _)))).map
  (fun x=>(⟨x.1,x.2.1⟩:S_Point)) (fun x=>by simp [cS_Point]) (fun _ h=>h)
def Q75 (x:S_Stop):Prop:=(Lit.int .i64 x.f0).wf=true∧Q35 x.f1∧True
theorem opens_75:Opens Try.prog 75 cS_Stop Q75 :=
 (opens_struct (t:=75) (N:=9) Try.underlying75 (by kernel_rfl) (opensN_cons (sz:=1) rfl (by kernel_rfl) (by decide) (opens_int (k:=.i64) (by kernel_rfl))
  (opensN_cons (sz:=8) rfl (by kernel_rfl) (by decide) opens_35
  (opensN_nil _ _)))).map
  (fun x=>(⟨x.1,x.2.1⟩:S_Stop)) (fun x=>by simp [cS_Stop,cS_Inks]) (fun _ h=>h)
def Q42 (x:S_Matrix):Prop:=(Lit.int .i64 x.f0).wf=true∧(Lit.int .i64 x.f1).wf=true∧(Lit.int .i64 x.f2).wf=true∧(Lit.int .i64 x.f3).wf=true∧(Lit.int .i64 x.f4).wf=true∧(Lit.int .i64 x.f5).wf=true∧True
theorem opens_42:Opens Try.prog 42 cS_Matrix Q42 :=
 (opens_struct (t:=42) (N:=6) Try.underlying42 (by kernel_rfl) (opensN_cons (sz:=1) rfl (by kernel_rfl) (by decide) (opens_int (k:=.i64) (by kernel_rfl))
  (opensN_cons (sz:=1) rfl (by kernel_rfl) (by decide) (opens_int (k:=.i64) (by kernel_rfl))
  (opensN_cons (sz:=1) rfl (by kernel_rfl) (by decide) (opens_int (k:=.i64) (by kernel_rfl))
  (opensN_cons (sz:=1) rfl (by kernel_rfl) (by decide) (opens_int (k:=.i64) (by kernel_rfl))
  (opensN_cons (sz:=1) rfl (by kernel_rfl) (by decide) (opens_int (k:=.i64) (by kernel_rfl))
  (opensN_cons (sz:=1) rfl (by kernel_rfl) (by decide) (opens_int (k:=.i64) (by kernel_rfl))
  (opensN_nil _ _)))))))).map
  (fun x=>(⟨x.1,x.2.1,x.2.2.1,x.2.2.2.1,x.2.2.2.2.1,x.2.2.2.2.2.1⟩:S_Matrix)) (fun x=>by simp [cS_Matrix]) (fun _ h=>h)
def Q44 (x:S_Image):Prop:=(Lit.int .i64 x.f0).wf=true∧(Lit.int .i64 x.f1).wf=true∧(x.f2.length≤maxLen∧∀ a∈x.f2,Q35 a)∧(x.f3.length≤maxLen∧∀ a∈x.f3,True)∧Q42 x.f4∧True∧True∧True
theorem opens_44:Opens Try.prog 44 cS_Image Q44 :=
 (opens_struct (t:=44) (N:=12) Try.underlying44 (by kernel_rfl) (opensN_cons (sz:=1) rfl (by kernel_rfl) (by decide) (opens_int (k:=.i64) (by kernel_rfl))
  (opensN_cons (sz:=1) rfl (by kernel_rfl) (by decide) (opens_int (k:=.i64) (by kernel_rfl))
  (opensN_cons (sz:=1) rfl (by kernel_rfl) (by decide) (opens_slice (e:=35) (sz:=8) (by kernel_rfl) (by kernel_rfl) (by decide) opens_35)
  (opensN_cons (sz:=1) rfl (by kernel_rfl) (by decide) (opens_slice (e:=5) (sz:=1) (by kernel_rfl) (by kernel_rfl) (by decide) (opens_u8 (by kernel_rfl)))
  (opensN_cons (sz:=6) rfl (by kernel_rfl) (by decide) opens_42
  (opensN_cons (sz:=1) rfl (by kernel_rfl) (by decide) (opens_bool (by kernel_rfl))
  (opensN_cons (sz:=1) rfl (by kernel_rfl) (by decide) (opens_bool (by kernel_rfl))
  (opensN_nil _ _))))))))).map
  (fun x=>(⟨x.1,x.2.1,x.2.2.1,x.2.2.2.1,x.2.2.2.2.1,x.2.2.2.2.2.1,x.2.2.2.2.2.2.1⟩:S_Image)) (fun x=>by simp [cS_Image,cS_Matrix]) (fun _ h=>h)
def Q46 (x:S_Source):Prop:=(Lit.int .i64 x.f0).wf=true∧Q35 x.f1∧Q37 x.f2∧Q37 x.f3∧(Lit.int .i64 x.f4).wf=true∧(x.f5.length≤maxLen∧∀ a∈x.f5,Q75 a)∧Q44 x.f6∧True
theorem opens_46:Opens Try.prog 46 cS_Source Q46 :=
 (opens_struct (t:=46) (N:=27) Try.underlying46 (by kernel_rfl) (opensN_cons (sz:=1) rfl (by kernel_rfl) (by decide) (opens_int (k:=.i64) (by kernel_rfl))
  (opensN_cons (sz:=8) rfl (by kernel_rfl) (by decide) opens_35
  (opensN_cons (sz:=2) rfl (by kernel_rfl) (by decide) opens_37
  (opensN_cons (sz:=2) rfl (by kernel_rfl) (by decide) opens_37
  (opensN_cons (sz:=1) rfl (by kernel_rfl) (by decide) (opens_int (k:=.i64) (by kernel_rfl))
  (opensN_cons (sz:=1) rfl (by kernel_rfl) (by decide) (opens_slice (e:=75) (sz:=9) (by kernel_rfl) (by kernel_rfl) (by decide) opens_75)
  (opensN_cons (sz:=12) rfl (by kernel_rfl) (by decide) opens_44
  (opensN_nil _ _))))))))).map
  (fun x=>(⟨x.1,x.2.1,x.2.2.1,x.2.2.2.1,x.2.2.2.2.1,x.2.2.2.2.2.1,x.2.2.2.2.2.2.1⟩:S_Source)) (fun x=>by simp [cS_Source,cS_Inks,cS_Point,cS_Point,cS_Image]) (fun _ h=>h)
def Q48 (x:S_Item):Prop:=(Lit.int .i64 x.f0).wf=true∧(x.f1.length≤maxLen∧∀ a∈x.f1,Q72 a)∧Q46 x.f2∧(Lit.int .u8 x.f3).wf=true∧(Lit.int .i64 x.f4).wf=true∧True∧True∧True∧True
theorem opens_48:Opens Try.prog 48 cS_Item Q48 :=
 (opens_struct (t:=48) (N:=34) Try.underlying48 (by kernel_rfl) (opensN_cons (sz:=1) rfl (by kernel_rfl) (by decide) (opens_int (k:=.i64) (by kernel_rfl))
  (opensN_cons (sz:=1) rfl (by kernel_rfl) (by decide) (opens_slice (e:=72) (sz:=3) (by kernel_rfl) (by kernel_rfl) (by decide) opens_72)
  (opensN_cons (sz:=27) rfl (by kernel_rfl) (by decide) opens_46
  (opensN_cons (sz:=1) rfl (by kernel_rfl) (by decide) (opens_int (k:=.u8) (by kernel_rfl))
  (opensN_cons (sz:=1) rfl (by kernel_rfl) (by decide) (opens_int (k:=.i64) (by kernel_rfl))
  (opensN_cons (sz:=1) rfl (by kernel_rfl) (by decide) (opens_bool (by kernel_rfl))
  (opensN_cons (sz:=1) rfl (by kernel_rfl) (by decide) (opens_bool (by kernel_rfl))
  (opensN_cons (sz:=1) rfl (by kernel_rfl) (by decide) (opens_bool (by kernel_rfl))
  (opensN_nil _ _)))))))))).map
  (fun x=>(⟨x.1,x.2.1,x.2.2.1,x.2.2.2.1,x.2.2.2.2.1,x.2.2.2.2.2.1,x.2.2.2.2.2.2.1,x.2.2.2.2.2.2.2.1⟩:S_Item)) (fun x=>by simp [cS_Item,cS_Source]) (fun _ h=>h)
def Q25 (x:S_List):Prop:=(Lit.int .i64 x.f0).wf=true∧(Lit.int .i64 x.f1).wf=true∧(x.f2.length≤maxLen∧∀ a∈x.f2,a.length≤maxLen)∧(x.f3.length≤maxLen∧∀ a∈x.f3,Q48 a)∧True
theorem opens_25:Opens Try.prog 25 cS_List Q25 :=
 (opens_struct (t:=25) (N:=4) Try.underlying25 (by kernel_rfl) (opensN_cons (sz:=1) rfl (by kernel_rfl) (by decide) (opens_int (k:=.i64) (by kernel_rfl))
  (opensN_cons (sz:=1) rfl (by kernel_rfl) (by decide) (opens_int (k:=.i64) (by kernel_rfl))
  (opensN_cons (sz:=1) rfl (by kernel_rfl) (by decide) (opens_slice (e:=9) (sz:=1) (by kernel_rfl) (by kernel_rfl) (by decide) (opens_str (by kernel_rfl)))
  (opensN_cons (sz:=1) rfl (by kernel_rfl) (by decide) (opens_slice (e:=48) (sz:=34) (by kernel_rfl) (by kernel_rfl) (by decide) opens_48)
  (opensN_nil _ _)))))).map
  (fun x=>(⟨x.1,x.2.1,x.2.2.1,x.2.2.2.1⟩:S_List)) (fun x=>by simp [cS_List]) (fun _ h=>h)
open Go.Vm.TopG.L
theorem byt_of {z:Int} (h:(Lit.int .u8 z).wf=true):Byt z:=by
 have h:=(show IntKind.u8.min≤z∧z≤IntKind.u8.max by simpa [Lit.wf] using h)
 exact ⟨h.1,h.2⟩
theorem ink_of {v:S_Inks} (h:Q35 v):InkOk v :=
 ⟨byt_of h.1,byt_of h.2.1,byt_of h.2.2.1,byt_of h.2.2.2.1,byt_of h.2.2.2.2.1,byt_of h.2.2.2.2.2.1,byt_of h.2.2.2.2.2.2.1,byt_of h.2.2.2.2.2.2.2.1⟩
theorem wf_of {l:S_List} (h:Q25 l):∀ i∈l.f3,ItemWf i:=fun i hi=>by
 obtain ⟨_,_,s,b,_⟩:=h.2.2.2.1.2 i hi
 obtain ⟨_,v,_,_,_,st,im,_⟩:=s
 exact ⟨⟨ink_of v,fun a ha=>ink_of (st.2 a ha).2.1,fun a ha=>ink_of (im.2.2.1.2 a ha)⟩,byt_of b⟩
theorem opens_args:OpensArgs Try.prog [25,3,3,3,3] (fun z:S_List×Int×Int×Int×Int×Unit=>[.agg (cS_List z.1),.d (.v (.int .i64 z.2.1)),.d (.v (.int .i64 z.2.2.1)),.d (.v (.int .i64 z.2.2.2.1)),.d (.v (.int .i64 z.2.2.2.2.1))]) (fun z=>Q25 z.1∧(Lit.int .i64 z.2.1).wf=true∧(Lit.int .i64 z.2.2.1).wf=true∧(Lit.int .i64 z.2.2.2.1).wf=true∧(Lit.int .i64 z.2.2.2.2.1).wf=true∧True) :=
 (opensArgs_agg Try.underlying25 opens_25 (opensArgs_flat (x:=fun y:Int=>.v (.int .i64 y)) (by kernel_rfl) (fun _=>rfl) (opens_int (k:=.i64) (by kernel_rfl)) (opensArgs_flat (x:=fun y:Int=>.v (.int .i64 y)) (by kernel_rfl) (fun _=>rfl) (opens_int (k:=.i64) (by kernel_rfl)) (opensArgs_flat (x:=fun y:Int=>.v (.int .i64 y)) (by kernel_rfl) (fun _=>rfl) (opens_int (k:=.i64) (by kernel_rfl)) (opensArgs_flat (x:=fun y:Int=>.v (.int .i64 y)) (by kernel_rfl) (fun _=>rfl) (opens_int (k:=.i64) (by kernel_rfl)) (opensArgs_nil _))))))
abbrev gl:Glos:=[]
theorem of_lay {W:World}:∀ g∈gl,GloAt (allS W) W g.1 g.2:=fun _ h=>by cases h
set_option maxRecDepth 100000 in
theorem lifted (os:Os) (started:os.Started) (H:Type) (enc:TypeId×Value→H) :
  ReturnsInHanded {} Try.checked os 3 .any (Rows.topGroupsSpec.pre6 enc Try.prog Try.f3 Rows.topGroupsRow.domain false) (Rows.topGroupsSpec.post enc Try.prog Try.f3 false true false false) :=
 returnsInHanded_of_change (C:=Try.checked) own started (by kernel_rfl) Try.func3
  (ChangeSpec.witness6 (enc:=enc) (C:=Try.checked) false ⟨#[],#[.agg #[.int .i64 0,.int .i64 0,.slice none 0 0,.slice none 0 0],.int .i64 0,.int .i64 0,.int .i64 0,.int .i64 0],[]⟩ 8 (by kernel_rfl) (by kernel_rfl) (by kernel_rfl) (by kernel_rfl))
  fun W base args ds gs before hval hW _ _=>law_contractGs gl (tb:=4) (ts:=[25,3,3,3,3]) (by kernel_rfl) opens_args (fun _=>by simp [resSlot]) (fun b hb=>let ⟨_,h⟩:=(show ∃ F,top_TopGroups F b.1 b.2.1 b.2.2.1 b.2.2.2.1 b.2.2.2.2.1=some true from ⟨_,groups_law b.1 b.2.1 b.2.2.1 b.2.2.2.1 b.2.2.2.2.1 (wf_of hb.1)⟩); top_TopGroups_ok h) (by kernel_rfl) (by kernel_rfl) rfl rfl Try.underlying4
   (fun ds hd=>match ds,hd with | [_,_,_,_,_],_=>rfl) W base args ds gs before of_lay hval hW
theorem topGroups_row:Rows.TopGroupsSaid :=
 OpenClaim.holds_of_wide 3 Try.f3 rfl rfl rfl rfl rfl rfl rfl ⟨rfl,rfl,rfl,rfl,rfl⟩ rfl rfl rfl rfl rfl (by kernel_rfl) Try.func3 (by kernel_rfl)
  (of_decide_eq_true (by kernel_rfl)) (by unfold Func.isWrapper; first | (rw [if_pos (by decide +kernel)]; kernel_rfl) | (rw [if_neg (by decide +kernel)]; exact ⟨rfl,rfl⟩))
  (fun os started H enc _=>lifted os started H enc)
theorem topGroups_holds:Rows.TopGroupsSaid:=topGroups_row
#print axioms topGroups_holds
end Go.Proofs.Ytjjclmimifionaa
