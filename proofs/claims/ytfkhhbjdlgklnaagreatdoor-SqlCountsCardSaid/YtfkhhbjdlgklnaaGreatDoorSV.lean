/- The sql seat: a world that holds the listed variables. -/
import Derived.Test.YtfkhhbjdlgklnaaGreatDoorRows
import Derived.Lay
import Derived.LaidMore
import Derived.Lib.LaidIn
import Derived.KernelRfl
import Derived.Deep.DeepWitnessRowRef
import Derived.Deep.DeepHandedRow
import Derived.OpenShut
namespace Go.Proofs.YtfkhhbjdlgklnaaGreatDoor
open Go
noncomputable def w00 (os : Os) : World := World.doorLaid Tryz.prog 400 os
noncomputable def doorW (os : Os) : World := (w00 os).layVars Tryz.prog [("unicode/utf8.first", Go.Pinned.utf8First)]
noncomputable def inW (os : Os) : World := ((doorW os).forCall (fun _ _ => 0) ⟨#[], #[.int .u8 0, .int .u8 0], []⟩)
def Bs : List Nat := [0, 1, 2, 3, 4, 5, 6, 7, 8, 9, 10, 11, 12, 14, 15, 16, 17, 18, 19, 20, 21, 22, 23, 24, 25, 26, 27, 28, 29]
theorem laid_met (os : Os) : laidMet Tryz.prog Rows.sqlCountsRow.laid (inW os).memory := by
  refine laidMet_layVars (w0 := w00 os) ["unicode/utf8.first"] Bs (by kernel_rfl) (by kernel_rfl) (by kernel_rfl) ?_
  exact LaidIn.of_run Bs 8 (by kernel_rfl) (by kernel_rfl) (by kernel_rfl) (by kernel_rfl)
theorem vars_ref (os : Os) : (inW os).variablesRefB Tryz.prog = true := by kernel_rfl
theorem begun (os : Os) : ((inW os).heap.toList.drop Tryz.prog.globals.size).take ((begin Tryz.prog (fun _ _ => 0) default).world.heap.size - Tryz.prog.globals.size) =
      (begin Tryz.prog (fun _ _ => 0) default).world.heap.toList.drop Tryz.prog.globals.size := by kernel_rfl
end Go.Proofs.YtfkhhbjdlgklnaaGreatDoor

/- The sql seat: a start that fits. -/
namespace Go.Proofs.YtfkhhbjdlgklnaaGreatDoor.sqlCounts
open Go Go.RowKit
theorem reads (os : Os) {H : Type} (enc : TypeId × Value → H) : ∃ places, DataW.whole enc Tryz.prog (inW os).memory Tryz.f7.params.toList Rows.sqlCountsSpec.vars false #[Value.int .u8 0, .int .u8 0].toList 8 = some ([.lit (.int .u8 0), .lit (.int .u8 0)], [], places) :=
  ⟨[], by kernel_rfl⟩

theorem okw (os : Os) : Input.okWideB Tryz.checked.prog (inW os) 7 ⟨#[], #[.int .u8 0, .int .u8 0], []⟩ = true := by kernel_rfl
set_option maxRecDepth 100000 in
theorem pre1 (os : Os) {H : Type} (enc : TypeId × Value → H) : (OpenSpec.ofChange Rows.sqlCountsSpec).preRow enc Tryz.prog Tryz.f7 Rows.sqlCountsRow.domain false Rows.sqlCountsRow.laid (inW os).memory #[.int .u8 0, .int .u8 0] := by
  obtain ⟨places, hx⟩ := reads os enc
  exact OpenSpec.preRow_of_cond 8 hx (by kernel_rfl) (fun k hk => by cases hk) (by kernel_rfl) (laid_met os)
set_option maxRecDepth 100000 in
theorem witness (os : Os) {H : Type} (enc : TypeId × Value → H) : ∃ (w : World) (tape : Tape) (i : Input), w.os = os ∧ (w.forCall tape i).Shaped Tryz.checked.prog ∧ i.vars = [] ∧ Input.okWide Tryz.checked.prog (w.forCall tape i) .any w.heap.size 7 i ∧
      (OpenSpec.ofChange Rows.sqlCountsSpec).preRow enc Tryz.checked.prog Tryz.f7 Rows.sqlCountsRow.domain false Rows.sqlCountsRow.laid (w.forCall tape i).memory i.args ∧ ({ modest := false } : Assume).holds Tryz.checked.prog (lone (Frame.enter Tryz.checked.prog 7 i.args .normal) [] (w.forCall tape i)) :=
  witness_row_atRef (enc := enc) (C := Tryz.checked) false (doorW os) #[.int .u8 0, .int .u8 0] rfl (vars_ref os) (begun os) (okw os) (pre1 os enc)
end Go.Proofs.YtfkhhbjdlgklnaaGreatDoor.sqlCounts
