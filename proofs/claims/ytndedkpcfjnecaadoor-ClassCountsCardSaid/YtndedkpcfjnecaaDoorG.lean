/- What the listed variables hold, as the evaluator lays it. -/
import Derived.Test.YtndedkpcfjnecaaDoorRows
import Derived.Test.YtndedkpcfjnecaaDoorA25
import Derived.Test.YtndedkpcfjnecaaDoorV
import Derived.LaidMore
import Derived.Stop.Joined
namespace Go.Proofs.YtndedkpcfjnecaaDoor.Ab
open Go.Proofs Go.ChangeShapes Go.WideShapes Go.ChangeAt Go.RowKit Go.Deep
set_option maxRecDepth 100000
def laidRows : List (String × DataW Unit) := [("dactyl/class.ranges", Rows.laid_dactyl_class_ranges), ("dactyl/class.looks", Rows.laid_dactyl_class_looks)]
def lay0 : List Value := ((laid.find? (·.1 == 0)).map (·.2)).getD []
def lay1 : List Value := ((laid.find? (·.1 == 1)).map (·.2)).getD []
theorem lay_eq : laid = [(0, lay0), (1, lay1)] := by kernel_rfl
theorem gRanges : Tryd.prog.globalNamed "dactyl/class.ranges" = some 1 := by kernel_rfl
theorem gLooks : Tryd.prog.globalNamed "dactyl/class.looks" = some 0 := by kernel_rfl
theorem tRanges : (Tryd.prog.globals[1]?).map (·.type) = some 53 := by kernel_rfl
theorem tLooks : (Tryd.prog.globals[0]?).map (·.type) = some 52 := by kernel_rfl
theorem uRanges : Tryd.prog.underlying 53 = some (.array 168 21) := by kernel_rfl
theorem uLooks : Tryd.prog.underlying 52 = some (.array 102 21) := by kernel_rfl
theorem u21 : Tryd.prog.underlying 21 = some (.int .i32) := by kernel_rfl
theorem c21 : Tryd.prog.cellsOf 21 = 1 := by kernel_rfl
theorem of_laid {W : World} (h : laidMetH Tryd.prog laidRows W) : LaidIn laid W := by
  rw [MakeChecks.laidMetH_plain _ _ _ (by kernel_rfl)] at h
  obtain ⟨ps, ⟨g0, t0, cs0, f0, p0, q0, hg0, ht0, hv0, hd0, ⟨g1, t1, cs1, f1, p1, q1, hg1, ht1, hv1, hd1, _, _⟩, _⟩, _, _⟩ := h
  obtain rfl := Option.some.inj (gRanges.symm.trans hg0)
  obtain rfl := Option.some.inj (gLooks.symm.trans hg1)
  obtain rfl := Option.some.inj (tRanges.symm.trans ht0)
  obtain rfl := Option.some.inj (tLooks.symm.trans ht1)
  have r0 := cells_of_array (l := lay1) gRanges hv0 uRanges u21 c21 hd0 (by kernel_rfl)
  have r1 := cells_of_array (l := lay0) gLooks hv1 uLooks u21 c21 hd1 (by kernel_rfl)
  rw [lay_eq]
  exact laidIn_cons (r1.1 (by decide)) r1.2 (laidIn_cons (r0.1 (by decide)) r0.2 laidIn_nil)
theorem door_met (os : Os) (args : Array Value) : laidMetH Tryd.prog laidRows ((World.doorLaid Tryd.prog 3000 os).forCall (fun _ _ => 0) ⟨#[], args, []⟩).memory :=
  laidMetH_of_parts3 (fuel := 8) (laidMet_of_run' 8 (by kernel_rfl) (by kernel_rfl)) (by kernel_rfl) (by kernel_rfl)
theorem own : ownKnob Tryd.prog.godebug = none := by kernel_rfl
theorem laidOut : laidOutB Tryd.prog = true := by kernel_rfl
end Go.Proofs.YtndedkpcfjnecaaDoor.Ab
