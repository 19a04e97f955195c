/- Facts of the program alone that every row asks, each by the kernel. Conditions: none. -/
import Derived.Test.YtaejmginhkbbhaaGreatDoorF1
set_option linter.unusedSimpArgs false
set_option linter.unusedVariables false
set_option maxRecDepth 100000
set_option maxHeartbeats 1000000
namespace Go.Proofs.YtaejmginhkbbhaaGreatDoor
open Go Go.RowKit
set_option maxHeartbeats 8000000
theorem and_t {a b : Bool} (ha : a = true) (hb : b = true) : (a && b) = true := by rw [ha, hb]; rfl
theorem prog_k1 : (laidOutB Tryz.prog) = true := by kernel_rfl
theorem prog_k2 : (mapsRowed Tryz.prog) = true := by kernel_rfl
theorem prog_k6 : (Tryz.prog.stops == []) = true := by kernel_rfl
theorem prog_k8 : (Tryz.prog.stopKnobs == []) = true := by kernel_rfl
theorem prog_k22 : (Rows.eventBoundsRow.plainKeys == Tryz.prog.plainKeys) = true := by kernel_rfl
theorem prog_k24 : (Tryz.prog.stopsHeard) = true := by kernel_rfl
theorem prog_k25 : (Tryz.prog.mayEnter) = true := by kernel_rfl
theorem prog_k26 : (Rows.eventBoundsRow.lifted == Tryz.prog.liftsFinal) = true := by kernel_rfl
theorem prog_k27 : (Tryz.prog.make == some Rows.eventBoundsRow.make) = true := by kernel_rfl
theorem prog_main : Tryz.pinned.checked.prog.mainIs = some (true, ("ad3379244174df8ea36b8eb533d690d9d6e7f98121d363a87c0c9350fc7a453b").toList) := by kernel_rfl
theorem prog_looks : true = Tryz.pinned.checked.prog.looks [] := by kernel_rfl
end Go.Proofs.YtaejmginhkbbhaaGreatDoor
