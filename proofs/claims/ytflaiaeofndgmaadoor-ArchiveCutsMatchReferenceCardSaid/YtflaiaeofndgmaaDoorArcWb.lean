import Derived.Test.YtflaiaeofndgmaaDoorArcWa
import Derived.Deep.RegionHeld3
import Derived.Maps.Own
namespace Go.Vm.ArcG
open Go.Proofs
open Go.RowKit Go.Shelf
theorem und39:Tryd.prog.underlying 39=some (.map 49 41):=by kernel_rfl
theorem und40:Tryd.prog.underlying 40=some (.map 9 48):=by kernel_rfl
theorem und49:Tryd.prog.underlying 49=some (.int .u32):=by kernel_rfl
theorem und9:Tryd.prog.underlying 9=some .string:=by kernel_rfl
theorem zero41 (w:World):(zeroValue 41).run Tryd.prog w=.ok (.slice none 0 0) w:=by kernel_rfl
theorem ck (empty:Bool) (k:Int) (w:World):(Instr.checkKey empty 10000 49 (.int .u32 k)).run Tryd.prog w=.ok () w:=MapKept.run_checkKey und49 (by simp [MapKept.IsKey]) empty 9999
theorem cs (empty:Bool) (k:ByteArray) (w:World):(Instr.checkKey empty 10000 9 (.string k)).run Tryd.prog w=.ok () w:=MapKept.run_checkKey und9 (by simp [MapKept.IsKey]) empty 9999
theorem look_none {w:World} {b c:Nat} (h:w.heap[b]? = some (.map #[] c)) (k:Int):(Instr.lookup 39 (.map (some b)) (.int .u32 k) false).run Tryd.prog w=.ok (.slice none 0 0) w:=by
  have hf:Instr.findNow (.int .u32) (.int .u32 k) ([]:List MapEntry) 0=some none:=rfl
  simp [Instr.lookup,run_underlying und39,MapKept.run_getObj_map h,ck,MapKept.run_findKey und49 hf,zero41]
theorem look_one {w:World} {b c:Nat} {k:Int} {v:Value} {n:Nat} (h:w.heap[b]? = some (.map #[⟨.int .u32 k,v,n⟩] c)):(Instr.lookup 39 (.map (some b)) (.int .u32 k) false).run Tryd.prog w=.ok v w:=by
  have hf:Instr.findNow (.int .u32) (.int .u32 k) ([⟨.int .u32 k,v,n⟩]:List MapEntry) 0=some (some (0,v)):=by simp [Instr.findNow,Instr.sameNow]
  simp [Instr.lookup,run_underlying und39,MapKept.run_getObj_map h,ck,MapKept.run_findKey und49 hf,zero41]
theorem look_name {w:World} {b c:Nat} {v:Value} {n:Nat} (h:w.heap[b]? = some (.map #[⟨.string ⟨#[97]⟩,v,n⟩] c)):(Instr.lookup 40 (.map (some b)) (.string ⟨#[97]⟩) true).run Tryd.prog w=.ok (.tuple #[v,.bool true]) w:=by
  have hf:Instr.findNow .string (.string ⟨#[97]⟩) ([⟨.string ⟨#[97]⟩,v,n⟩]:List MapEntry) 0=some (some (0,v)):=by
    have:((⟨#[97]⟩:ByteArray) == ⟨#[97]⟩)=true:=by decide
    simp only [Instr.findNow,Instr.sameNow,this]
  simp [Instr.lookup,run_underlying und40,MapKept.run_getObj_map h,cs,MapKept.run_findKey und9 hf]
/-- A world with another object at a place. -/
def setO (w:World) (b:Nat) (o:Obj):World:={ w with heap:=w.heap.setIfInBounds b o }
theorem put_piece {w:World} {b:Nat} (h:w.heap[b]? = some (.map #[] 0)) (k:Int) (v:Value):(Instr.mapUpdate 39 (.map (some b)) (.int .u32 k) v).run Tryd.prog w=.ok () (setO w b (.map #[⟨.int .u32 k,v,0⟩] 1)):=by
  have hf:Instr.findNow (.int .u32) (.int .u32 k) ([]:List MapEntry) 0=some none:=rfl
  simp [Instr.mapUpdate,run_underlying und39,MapKept.run_getObj_map h,ck,MapKept.run_findKey und49 hf,MapKept.run_setObj_map _ h,Result.andThen,setO]
theorem put_name {w:World} {b:Nat} (h:w.heap[b]? = some (.map #[] 0)) (k:ByteArray) (v:Value):(Instr.mapUpdate 40 (.map (some b)) (.string k) v).run Tryd.prog w=.ok () (setO w b (.map #[⟨.string k,v,0⟩] 1)):=by
  have hf:Instr.findNow .string (.string k) ([]:List MapEntry) 0=some none:=rfl
  simp [Instr.mapUpdate,run_underlying und40,MapKept.run_getObj_map h,cs,MapKept.run_findKey und9 hf,MapKept.run_setObj_map _ h,Result.andThen,setO]
end Go.Vm.ArcG
