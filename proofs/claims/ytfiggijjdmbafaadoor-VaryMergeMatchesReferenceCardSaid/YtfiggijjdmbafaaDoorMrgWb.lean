/-
  vary.Merge's law: the calls of Merge and of Merged over the law's blocks.
-/
import Derived.Test.YtfiggijjdmbafaaDoorMrgWa
import Derived.Test.YtfiggijjdmbafaaDoorMrgP2
import Derived.Test.YtfiggijjdmbafaaDoorMrgMg
namespace Go.Vm.MrgG
open Go.Proofs
/-- The law's blocks: fields at f,texts at a and b,rows at r. -/
def Blk (w:World) (f a b r:Nat) (r0 r1:List UInt8):Prop :=
  w.heap[f]? = some (.cells #[strOf [97],strOf [98,50]] 9 (0,0))∧w.heap[a]? = some (.cells #[strOf [120],strOf []] 9 (0,0)) ∧
  w.heap[b]? = some (.cells #[strOf r0,strOf r1] 9 (0,0))∧w.heap[r]? = some (.cells #[.slice (some ⟨a,0,none⟩) 2 2,.slice (some ⟨b,0,none⟩) 2 2] 23 (0,0))
theorem texts_at {w:World} {b:Nat} {x y:List UInt8} (h:w.heap[b]? = some (.cells #[strOf x,strOf y] 9 (0,0))):RD (allS w) w (.sl 1 ([x,y].map cS)) (.slice (some ⟨b,0,none⟩) 2 2):=by
  simp only [RD]
  refine .inr ⟨b,0,2,_,_,_,rfl,Nat.le_refl _,heap_lt h,h,?_⟩
  simp only [List.map_cons,List.map_nil,REs,cS,RCs,RD]
  exact ⟨rfl,⟨⟨_,rfl,rfl⟩,trivial⟩,rfl,⟨⟨_,rfl,rfl⟩,trivial⟩,trivial⟩
theorem at_merge {gm0:Int} {w:World} {f a b r:Nat} {r0 r1 s:List UInt8} {out:List UInt8×Int} {j:Int} (h:Blk w f a b r r0 r1) (hlaw:∃ F,vary_Merge F s (S_VaryTable.mk fs2 (rows2 r0 r1)) j=some out)
    (hg:∀ g∈([(0,[gm0].flatMap (cI .i64))]:Glos),GloAt (allS w) w g.1 g.2) :
    Calls Tryd.prog 13 #[strOf s,.agg #[.slice (some ⟨f,0,none⟩) 2 2,.slice (some ⟨r,0,none⟩) 2 2],.int .i64 j] w fun e w'=>e=.returned (.tuple ⟨[strOf out.1,.int .i64 out.2]⟩)∧KeptAll w w':=by
  obtain ⟨F,hF⟩:=hlaw
  obtain ⟨h1,h2,h3,h4⟩:=h
  have:=ACall.lawGsR (us:=[strOf s,.agg #[.slice (some ⟨f,0,none⟩) 2 2,.slice (some ⟨r,0,none⟩) 2 2],.int .i64 j]) (gs:=[(0,[gm0].flatMap (cI .i64))]) (W:=w) (vary_Merge_ok hF) rfl (by simp [resSlot]) rfl ?_ hg
  · exact this
  · refine ⟨?_,?_,?_,trivial⟩
    · simp only [RFlat,RD]
    · refine ⟨[.slice (some ⟨f,0,none⟩) 2 2,.slice (some ⟨r,0,none⟩) 2 2],rfl,rfl,?_⟩
      refine ⟨⟨_,rfl,texts_at h1⟩,⟨_,rfl,?_⟩,trivial⟩
      simp only [RD,rows2]
      refine .inr ⟨r,0,2,_,_,_,rfl,Nat.le_refl _,heap_lt h4,h4,?_⟩
      simp only [List.map_cons,List.map_nil,REs,RCs,cL]
      exact ⟨rfl,⟨⟨_,rfl,texts_at h2⟩,trivial⟩,rfl,⟨⟨_,rfl,texts_at h3⟩,trivial⟩,trivial⟩
    · simp only [RFlat,RD]
      exact ⟨trivial,rfl⟩
theorem at_merged {w:World} {f b:Nat} {r0 r1 s:List UInt8} {out:List UInt8×Int} (hf:w.heap[f]? = some (.cells #[strOf [97],strOf [98,50]] 9 (0,0))) (hb:w.heap[b]? = some (.cells #[strOf r0,strOf r1] 9 (0,0)))
    (hlaw:∃ F,ref3_Merged F s fs2 [r0,r1]=some out) :
    Calls Tryd.prog 14 #[strOf s,.slice (some ⟨f,0,none⟩) 2 2,.slice (some ⟨b,0,none⟩) 2 2] w fun e w'=>e=.returned (.tuple ⟨[strOf out.1,.int .i64 out.2]⟩)∧KeptAll w w':=by
  obtain ⟨F,hF⟩:=hlaw
  have:=ACall.lawGsR (us:=[strOf s,.slice (some ⟨f,0,none⟩) 2 2,.slice (some ⟨b,0,none⟩) 2 2]) (gs:=[]) (W:=w) (ref3_Merged_ok hF) rfl (by simp [resSlot]) rfl ?_ (fun _ h=>by cases h)
  · exact this
  · refine ⟨?_,texts_at hf,texts_at hb,trivial⟩
    simp only [RFlat,RD]
end Go.Vm.MrgG
